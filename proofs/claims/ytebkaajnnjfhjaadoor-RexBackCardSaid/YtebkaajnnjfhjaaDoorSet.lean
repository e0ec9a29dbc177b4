/-
  Plain facts on sets of bytes as four words: no program in sight.
-/
namespace Go.Proofs.YtebkaajnnjfhjaaDoor

/-- Four words. -/
structure W4 where
  a : Nat
  b : Nat
  c : Nat
  d : Nat
  deriving DecidableEq

namespace W4
def word (s : W4) (i : Nat) : Nat := if i = 0 then s.a else if i = 1 then s.b else if i = 2 then s.c else s.d
def has (s : W4) (n : Nat) : Bool := (s.word (n / 64)).testBit (n % 64)
def Ok (s : W4) : Prop := s.a < 18446744073709551616 ∧ s.b < 18446744073709551616 ∧ s.c < 18446744073709551616 ∧ s.d < 18446744073709551616
def zero : W4 := ⟨0, 0, 0, 0⟩
def or (s t : W4) : W4 := ⟨s.a ||| t.a, s.b ||| t.b, s.c ||| t.c, s.d ||| t.d⟩
def not (s : W4) : W4 := ⟨18446744073709551615 - s.a, 18446744073709551615 - s.b, 18446744073709551615 - s.c, 18446744073709551615 - s.d⟩
def bit (n : Nat) : Nat := 2 ^ (n % 64)
def put (s : W4) (n : Nat) : W4 :=
  let m := bit n
  if n / 64 = 0 then { s with a := s.a ||| m } else if n / 64 = 1 then { s with b := s.b ||| m } else if n / 64 = 2 then { s with c := s.c ||| m } else { s with d := s.d ||| m }
def rangeTo (f : Nat) : Nat → W4
  | 0 => zero
  | k + 1 => (rangeTo f k).put (f + k)
def range (f t : Nat) : W4 := rangeTo f (t + 1 - f)
def ofList (l : List UInt8) : W4 := l.foldl (fun s c => s.put c.toNat) zero

theorem put_0 (s : W4) (n : Nat) (h : n / 64 = 0) : s.put n = { s with a := s.a ||| bit n } := by simp [put, h]
theorem put_1 (s : W4) (n : Nat) (h : n / 64 = 1) : s.put n = { s with b := s.b ||| bit n } := by simp [put, h]
theorem put_2 (s : W4) (n : Nat) (h : n / 64 = 2) : s.put n = { s with c := s.c ||| bit n } := by simp [put, h]
theorem put_3 (s : W4) (n : Nat) (h : n / 64 = 3) : s.put n = { s with d := s.d ||| bit n } := by simp [put, h]
theorem or_lt {x y : Nat} (hx : x < 18446744073709551616) (hy : y < 18446744073709551616) : x ||| y < 18446744073709551616 := Nat.or_lt_two_pow (n := 64) hx hy
theorem pow_lt (n : Nat) : bit n < 18446744073709551616 := by
  unfold bit
  have : (18446744073709551616 : Nat) = 2 ^ 64 := by decide
  rw [this]
  exact Nat.pow_lt_pow_right (by omega) (by omega)
theorem ok_zero : zero.Ok := by unfold zero Ok; decide
theorem ok_or {s t : W4} (hs : s.Ok) (ht : t.Ok) : (s.or t).Ok := ⟨or_lt hs.1 ht.1, or_lt hs.2.1 ht.2.1, or_lt hs.2.2.1 ht.2.2.1, or_lt hs.2.2.2 ht.2.2.2⟩
theorem ok_not (s : W4) : s.not.Ok := by unfold not Ok; refine ⟨?_, ?_, ?_, ?_⟩ <;> simp only <;> omega
theorem ok_put {s : W4} (hs : s.Ok) (n : Nat) : (s.put n).Ok := by
  obtain ⟨h1, h2, h3, h4⟩ := hs
  have hp := pow_lt n
  unfold put
  simp only
  split
  · exact ⟨or_lt h1 hp, h2, h3, h4⟩
  split
  · exact ⟨h1, or_lt h2 hp, h3, h4⟩
  split
  · exact ⟨h1, h2, or_lt h3 hp, h4⟩
  · exact ⟨h1, h2, h3, or_lt h4 hp⟩
theorem ok_rangeTo (f k : Nat) : (rangeTo f k).Ok := by
  induction k with
  | zero => exact ok_zero
  | succ k ih => exact ok_put ih _
theorem ok_range (f t : Nat) : (range f t).Ok := ok_rangeTo _ _
theorem ok_fold (l : List UInt8) : ∀ s : W4, s.Ok → (l.foldl (fun s c => s.put c.toNat) s).Ok := by
  induction l with
  | nil => exact fun s h => h
  | cons c t ih => exact fun s h => ih _ (ok_put h _)
theorem ok_ofList (l : List UInt8) : (ofList l).Ok := ok_fold l _ ok_zero

theorem has_zero (n : Nat) : zero.has n = false := by
  unfold has word zero
  simp only
  split
  · simp
  split
  · simp
  split <;> simp
theorem has_or (s t : W4) (n : Nat) : (s.or t).has n = (s.has n || t.has n) := by
  unfold has word or
  simp only
  split
  · simp
  split
  · simp
  split <;> simp
theorem testBit_sub {x : Nat} (hx : x < 18446744073709551616) {i : Nat} (hi : i < 64) : (18446744073709551615 - x).testBit i = !x.testBit i := by
  have h := Nat.testBit_two_pow_sub_succ (x := x) (n := 64) hx i
  have e : 2 ^ 64 - (x + 1) = 18446744073709551615 - x := by omega
  rw [e] at h
  rw [h]
  simp [hi]
theorem has_not {s : W4} (hs : s.Ok) (n : Nat) : s.not.has n = !s.has n := by
  obtain ⟨h1, h2, h3, h4⟩ := hs
  unfold has word not
  simp only
  have hm : n % 64 < 64 := by omega
  split
  · exact testBit_sub h1 hm
  split
  · exact testBit_sub h2 hm
  split
  · exact testBit_sub h3 hm
  · exact testBit_sub h4 hm
theorem testBit_put (x m i : Nat) : (x ||| 2 ^ m).testBit i = (x.testBit i || decide (m = i)) := by
  rw [Nat.testBit_or, Nat.testBit_two_pow]
theorem has_put (s : W4) {m n : Nat} (hm : m < 256) (hn : n < 256) : (s.put m).has n = (s.has n || decide (m = n)) := by
  unfold has word put bit
  simp only
  have e : (m = n) ↔ (m / 64 = n / 64 ∧ m % 64 = n % 64) := by omega
  have g : (m / 64 = 0 ∨ m / 64 = 1 ∨ m / 64 = 2 ∨ m / 64 = 3) ∧ (n / 64 = 0 ∨ n / 64 = 1 ∨ n / 64 = 2 ∨ n / 64 = 3) := by omega
  obtain ⟨g1, g2⟩ := g
  rcases g1 with g1 | g1 | g1 | g1 <;> rcases g2 with g2 | g2 | g2 | g2 <;> simp [g1, g2, e, Nat.testBit_two_pow]
theorem has_rangeTo (f k n : Nat) (hk : f + k ≤ 256) (hn : n < 256) : (rangeTo f k).has n = decide (f ≤ n ∧ n < f + k) := by
  induction k with
  | zero => rw [rangeTo, has_zero]; symm; simp <;> omega
  | succ k ih =>
    rw [rangeTo, has_put _ (by omega) hn, ih (by omega), ← Bool.decide_or]
    congr 1
    simp only [eq_iff_iff]
    omega
theorem has_range (f t n : Nat) (ht : t < 256) (hn : n < 256) : (range f t).has n = decide (f ≤ n ∧ n ≤ t) := by
  unfold range
  by_cases h : f ≤ t
  · rw [has_rangeTo _ _ _ (by omega) hn]; congr 1; simp only [eq_iff_iff]; omega
  · have e : t + 1 - f = 0 := by omega
    rw [e, rangeTo, has_zero]; symm; simp; omega
theorem has_fold (l : List UInt8) (n : Nat) (hn : n < 256) : ∀ s : W4, (l.foldl (fun s c => s.put c.toNat) s).has n = (s.has n || l.any fun c => decide (c.toNat = n)) := by
  induction l with
  | nil => intro s; simp
  | cons c t ih =>
    intro s
    rw [List.foldl_cons, ih, has_put _ (UInt8.toNat_lt c) hn, List.any_cons, Bool.or_assoc]
theorem has_ofList (l : List UInt8) (n : Nat) (hn : n < 256) : (ofList l).has n = l.any fun c => decide (c.toNat = n) := by
  unfold ofList
  rw [has_fold l n hn, has_zero, Bool.false_or]
end W4
end Go.Proofs.YtebkaajnnjfhjaaDoor
