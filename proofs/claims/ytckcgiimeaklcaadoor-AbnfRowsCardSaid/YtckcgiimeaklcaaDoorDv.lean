/-
  What an element derives, as a least fixed point; a table of places that comes to it: no program in sight.
-/
import Derived.Test.YtckcgiimeaklcaaDoorAb
namespace Go.Proofs.YtckcgiimeaklcaaDoor
set_option linter.unusedVariables false
set_option linter.unusedSimpArgs false

/-- Two words. -/
structure W2 where
  a : Nat
  b : Nat
  deriving DecidableEq
namespace W2
def word (s : W2) (i : Nat) : Nat := if i = 0 then s.a else s.b
def has (s : W2) (n : Nat) : Bool := decide (n < 128) && (s.word (n / 64)).testBit (n % 64)
def Ok (s : W2) : Prop := s.a < 18446744073709551616 ∧ s.b < 18446744073709551616
def zero : W2 := ⟨0, 0⟩
def or (s t : W2) : W2 := ⟨s.a ||| t.a, s.b ||| t.b⟩
def bit (n : Nat) : Nat := 2 ^ (n % 64)
def put (s : W2) (n : Nat) : W2 := if n / 64 = 0 then { s with a := s.a ||| bit n } else { s with b := s.b ||| bit n }
theorem or_lt {x y : Nat} (hx : x < 18446744073709551616) (hy : y < 18446744073709551616) : x ||| y < 18446744073709551616 := Nat.or_lt_two_pow (n := 64) hx hy
theorem bit_lt (n : Nat) : bit n < 18446744073709551616 := by
  unfold bit
  have : (18446744073709551616 : Nat) = 2 ^ 64 := by decide
  rw [this]
  exact Nat.pow_lt_pow_right (by omega) (by omega)
theorem ok_zero : zero.Ok := by unfold zero Ok; decide
theorem ok_or {s t : W2} (hs : s.Ok) (ht : t.Ok) : (s.or t).Ok := ⟨or_lt hs.1 ht.1, or_lt hs.2 ht.2⟩
theorem ok_put {s : W2} (hs : s.Ok) (n : Nat) : (s.put n).Ok := by
  unfold put
  split
  · exact ⟨or_lt hs.1 (bit_lt n), hs.2⟩
  · exact ⟨hs.1, or_lt hs.2 (bit_lt n)⟩
theorem has_zero (n : Nat) : zero.has n = false := by
  unfold has word zero
  simp only
  split <;> simp
theorem has_or (s t : W2) (n : Nat) : (s.or t).has n = (s.has n || t.has n) := by
  unfold has word or
  simp only
  split <;> simp [Nat.testBit_or, Bool.and_or_distrib_left]
theorem has_put (s : W2) {n : Nat} (m : Nat) (hn : n < 128) : (s.put n).has m = (s.has m || decide (m = n)) := by
  by_cases hm : m < 128
  · by_cases h0 : n / 64 = 0
    · rw [put, if_pos h0]
      by_cases m0 : m / 64 = 0
      · simp only [has, word, m0, hm, if_true, bit, Nat.testBit_or, Nat.testBit_two_pow, decide_true, Bool.true_and]
        congr 1
        apply decide_eq_decide.2
        constructor <;> omega
      · simp only [has, word, if_neg m0]
        have : ¬ m = n := by intro e; subst e; exact m0 h0
        simp [this]
    · rw [put, if_neg h0]
      by_cases m0 : m / 64 = 0
      · simp only [has, word, m0, if_true]
        have : ¬ m = n := by intro e; subst e; exact h0 m0
        simp [this]
      · simp only [has, word, if_neg m0, hm, bit, Nat.testBit_or, Nat.testBit_two_pow, decide_true, Bool.true_and]
        congr 1
        apply decide_eq_decide.2
        constructor <;> omega
  · have : ¬ m = n := by omega
    simp [has, hm, this]
theorem ext {s t : W2} (hs : s.Ok) (ht : t.Ok) (h : ∀ n, s.has n = t.has n) : s = t := by
  obtain ⟨a, b⟩ := s
  obtain ⟨c, d⟩ := t
  obtain ⟨h1, h2⟩ := hs
  obtain ⟨h3, h4⟩ := ht
  simp only at h1 h2 h3 h4
  have e64 : (18446744073709551616 : Nat) = 2 ^ 64 := by decide
  have big : ∀ x : Nat, x < 18446744073709551616 → ∀ i, 64 ≤ i → x.testBit i = false := fun x hx i hi => Nat.testBit_lt_two_pow (Nat.lt_of_lt_of_le hx (by rw [e64]; exact Nat.pow_le_pow_right (by omega) hi))
  have ea : a = c := Nat.eq_of_testBit_eq fun i => by
    by_cases hi : i < 64
    · have := h i
      have e1 : i / 64 = 0 := by omega
      have e2 : i % 64 = i := by omega
      have e3 : i < 128 := by omega
      simpa [has, word, e1, e2, e3] using this
    · rw [big a h1 i (by omega), big c h3 i (by omega)]
  have eb : b = d := Nat.eq_of_testBit_eq fun i => by
    by_cases hi : i < 64
    · have := h (i + 64)
      have e1 : ¬ (i + 64) / 64 = 0 := by omega
      have e2 : (i + 64) % 64 = i := by omega
      have e3 : i + 64 < 128 := by omega
      simpa [has, word, e1, e2, e3] using this
    · rw [big b h2 i (by omega), big d h4 i (by omega)]
  rw [ea, eb]
/-- How many are not in it. -/
def cntN (s : W2) : Nat → Nat
  | 0 => 0
  | n + 1 => cntN s n + (if s.has n then 0 else 1)
def cnt (s : W2) : Nat := cntN s 128
theorem cntN_le {s t : W2} (h : ∀ n, t.has n = true → s.has n = true) : ∀ n, cntN s n ≤ cntN t n
  | 0 => Nat.le_refl _
  | n + 1 => by
    have := cntN_le h n
    have h1 := h n
    unfold cntN
    cases ht : t.has n
    · simp; split <;> omega
    · rw [h1 ht]; simpa using this
theorem cntN_lt {s t : W2} (h : ∀ n, t.has n = true → s.has n = true) {m : Nat} (h1 : s.has m = true) (h2 : t.has m = false) : ∀ n, m < n → cntN s n < cntN t n
  | 0, hm => by omega
  | n + 1, hm => by
    have := cntN_le h n
    unfold cntN
    by_cases e : m = n
    · subst e
      rw [h1, h2]
      simp
      omega
    · have := cntN_lt h h1 h2 n (by omega)
      have h3 := h n
      cases ht : t.has n
      · simp; split <;> omega
      · rw [h3 ht]; simpa using this
theorem cnt_lt {s t : W2} (hs : s.Ok) (ht : t.Ok) (h : ∀ n, t.has n = true → s.has n = true) (hne : s ≠ t) : cnt s < cnt t := by
  have : ∃ m, s.has m = true ∧ t.has m = false := by
    refine Classical.byContradiction fun hn => hne (ext hs ht fun n => ?_)
    cases h1 : s.has n
    · cases h2 : t.has n
      · rfl
      · rw [h n h2] at h1; exact h1.symm
    · cases h2 : t.has n
      · exact absurd ⟨n, h1, h2⟩ hn
      · rfl
  obtain ⟨m, h1, h2⟩ := this
  exact cntN_lt h h1 h2 128 (by unfold has at h1; simp at h1; exact h1.1)
theorem cntN_max (s : W2) : ∀ n, cntN s n ≤ n
  | 0 => Nat.le_refl _
  | n + 1 => by
    have := cntN_max s n
    unfold cntN
    split <;> omega
theorem cnt_max (s : W2) : cnt s ≤ 128 := cntN_max s 128
theorem cnt_le {s t : W2} (h : ∀ n, t.has n = true → s.has n = true) : cnt s ≤ cnt t := cntN_le h 128
end W2
namespace Ab
def alk (a b : UInt8) : Bool := a == b || (letter a && (a ||| 32) == (b ||| 32))
inductive St (f : Nat → Nat → Prop) : Nat → Nat → Nat → Prop
  | zero (i : Nat) : St f 0 i i
  | succ {n i j k : Nat} : St f n i j → f j k → St f (n + 1) i k
theorem St.mono {f g : Nat → Nat → Prop} (h : ∀ i j, f i j → g i j) {n i j : Nat} (s : St f n i j) : St g n i j := by
  induction s with
  | zero i => exact .zero i
  | succ s1 s2 ih => exact .succ ih (h _ _ s2)
theorem St.local {f g : Nat → Nat → Prop} (hf : ∀ i j, f i j → i ≤ j) {n i j : Nat} (s : St f n i j) : (∀ p q, i ≤ p → f p q → g p q) → St g n i j ∧ i ≤ j := by
  induction s with
  | zero i => exact fun _ => ⟨.zero i, Nat.le_refl _⟩
  | succ s1 s2 ih => exact fun h => ⟨.succ (ih h).1 (h _ _ (ih h).2 s2), Nat.le_trans (ih h).2 (hf _ _ s2)⟩
theorem St.fwd {f : Nat → Nat → Prop} {L : Nat} (hf : ∀ i j, f i j → i ≤ j ∧ j ≤ L) {n i j : Nat} (s : St f n i j) : i ≤ L → i ≤ j ∧ j ≤ L := by
  induction s with
  | zero i => exact fun h => ⟨Nat.le_refl _, h⟩
  | succ s1 s2 ih => exact fun h => ⟨Nat.le_trans (ih h).1 (hf _ _ s2).1, (hf _ _ s2).2⟩
/-- From lo to hi times; hi = -1: as often as one likes. -/
def Ofts (f : Nat → Nat → Prop) (lo hi : Int) (i j : Nat) : Prop := ∃ n : Nat, lo ≤ n ∧ (hi = -1 ∨ (n : Int) ≤ hi) ∧ St f n i j
theorem Ofts.mono {f g : Nat → Nat → Prop} (h : ∀ i j, f i j → g i j) {lo hi : Int} {i j : Nat} (s : Ofts f lo hi i j) : Ofts g lo hi i j :=
  let ⟨n, h1, h2, h3⟩ := s
  ⟨n, h1, h2, h3.mono h⟩
/-- Where one step more brings nothing new, none does. -/
theorem St.done {f : Nat → Nat → Prop} {lo n i : Nat} (hn : ∀ j, St f (n + 1) i j → ∃ m, lo ≤ m ∧ m ≤ n ∧ St f m i j) (hlo : lo ≤ n) : ∀ m, lo ≤ m → ∀ j, St f m i j → ∃ m', lo ≤ m' ∧ m' ≤ n ∧ St f m' i j := by
  intro m
  induction m with
  | zero => exact fun h j s => ⟨0, h, by omega, s⟩
  | succ m ih =>
    intro h j s
    by_cases hm : m + 1 ≤ n
    · exact ⟨m + 1, h, hm, s⟩
    · by_cases hl : lo ≤ m
      · cases s with
        | succ s1 s2 =>
          obtain ⟨m', h1, h2, h3⟩ := ih hl _ s1
          by_cases he : m' + 1 ≤ n
          · exact ⟨m' + 1, by omega, he, .succ h3 s2⟩
          · have : m' = n := by omega
            subst this
            exact hn j (.succ h3 s2)
      · omega
section
variable (es : List El) (rt : B → Option Nat) (w : B)
def LitAt (t : B) (i : Nat) : Prop := i + t.length ≤ w.length ∧ ∀ k, k < t.length → alk (t.getD k 0) (w.getD (i + k) 0) = true
def SpnAt (lo hi : Int) (i : Nat) : Prop := i < w.length ∧ lo ≤ ((w.getD i 0).toNat : Int) ∧ ((w.getD i 0).toNat : Int) ≤ hi
/-- What an element comes to, by what the others do. -/
def One (X : Nat → Nat → Nat → Prop) (k i j : Nat) : Prop := ∃ x, es[k]? = some x ∧
  ((x.k = 0 ∧ LitAt w x.t i ∧ j = i + x.t.length) ∨
   (x.k = 1 ∧ SpnAt w x.lo x.hi i ∧ j = i + 1) ∨
   (x.k = 2 ∧ ∃ r, rt x.t = some r ∧ X r i j) ∨
   (x.k = 3 ∧ ∃ m, X x.a.toNat i m ∧ X x.b.toNat m j) ∨
   (x.k = 4 ∧ (X x.a.toNat i j ∨ X x.b.toNat i j)) ∨
   (x.k = 5 ∧ Ofts (X x.a.toNat) x.lo x.hi i j))
theorem One.mono {X Y : Nat → Nat → Nat → Prop} (h : ∀ k i j, X k i j → Y k i j) {k i j : Nat} (o : One es rt w X k i j) : One es rt w Y k i j := by
  obtain ⟨x, hx, o⟩ := o
  refine ⟨x, hx, ?_⟩
  rcases o with o | o | ⟨o1, r, o2, o3⟩ | ⟨o1, m, o2, o3⟩ | ⟨o1, o2⟩ | ⟨o1, o2⟩
  · exact .inl o
  · exact .inr (.inl o)
  · exact .inr (.inr (.inl ⟨o1, r, o2, h _ _ _ o3⟩))
  · exact .inr (.inr (.inr (.inl ⟨o1, m, h _ _ _ o2, h _ _ _ o3⟩)))
  · exact .inr (.inr (.inr (.inr (.inl ⟨o1, o2.imp (h _ _ _) (h _ _ _)⟩))))
  · exact .inr (.inr (.inr (.inr (.inr ⟨o1, o2.mono (h _)⟩))))
/-- The least that is closed. -/
def E (k i j : Nat) : Prop := ∀ X : Nat → Nat → Nat → Prop, (∀ k i j, One es rt w X k i j → X k i j) → X k i j
theorem E_closed {k i j : Nat} (h : One es rt w (E es rt w) k i j) : E es rt w k i j := fun X hX => hX _ _ _ (h.mono es rt w fun k i j he => he X hX)
abbrev Tb := Nat → Nat → W2
def TT (tb : Tb) (k i j : Nat) : Prop := (tb k i).has j = true
def Fwd (tb : Tb) : Prop := ∀ k i j, TT tb k i j → i ≤ j ∧ j ≤ w.length
theorem one_fwd {tb : Tb} (hF : Fwd w tb) {k i j : Nat} (hi : i ≤ w.length) (o : One es rt w (TT tb) k i j) : i ≤ j ∧ j ≤ w.length := by
  obtain ⟨x, hx, o⟩ := o
  rcases o with ⟨_, o1, o2⟩ | ⟨_, o1, o2⟩ | ⟨o1, r, o2, o3⟩ | ⟨o1, m, o2, o3⟩ | ⟨o1, o2⟩ | ⟨o1, n, _, _, o2⟩
  · have := o1.1; omega
  · have := o1.1; omega
  · exact hF _ _ _ o3
  · exact ⟨Nat.le_trans (hF _ _ _ o2).1 (hF _ _ _ o3).1, (hF _ _ _ o3).2⟩
  · rcases o2 with o2 | o2 <;> exact hF _ _ _ o2
  · exact o2.fwd (fun i j h => hF _ i j h) hi
theorem one_local {tb tb' : Tb} (hF : Fwd w tb) {k i j : Nat} (hag : ∀ k i', i ≤ i' → tb k i' = tb' k i') (o : One es rt w (TT tb) k i j) : One es rt w (TT tb') k i j := by
  have hT : ∀ k p q, i ≤ p → TT tb k p q → TT tb' k p q := fun k p q hp h => by unfold TT at *; rw [← hag k p hp]; exact h
  obtain ⟨x, hx, o⟩ := o
  refine ⟨x, hx, ?_⟩
  rcases o with o | o | ⟨o1, r, o2, o3⟩ | ⟨o1, m, o2, o3⟩ | ⟨o1, o2⟩ | ⟨o1, n, h1, h2, o2⟩
  · exact .inl o
  · exact .inr (.inl o)
  · exact .inr (.inr (.inl ⟨o1, r, o2, hT _ _ _ (Nat.le_refl _) o3⟩))
  · exact .inr (.inr (.inr (.inl ⟨o1, m, hT _ _ _ (Nat.le_refl _) o2, hT _ _ _ (hF _ _ _ o2).1 o3⟩)))
  · exact .inr (.inr (.inr (.inr (.inl ⟨o1, o2.imp (hT _ _ _ (Nat.le_refl _)) (hT _ _ _ (Nat.le_refl _))⟩))))
  · exact .inr (.inr (.inr (.inr (.inr ⟨o1, n, h1, h2, (o2.local (fun p q h => (hF _ _ _ h).1) (fun p q hp h => hT _ p q hp h)).1⟩))))
/-- A table while place i is filled. -/
structure Good (tb : Tb) (i : Nat) : Prop where
  ok : ∀ k i, (tb k i).Ok
  fwd : Fwd w tb
  snd : ∀ k i j, TT tb k i j → E es rt w k i j
  dn : ∀ i', i < i' → i' ≤ w.length → ∀ k j, One es rt w (TT tb) k i' j → TT tb k i' j
  inf : ∀ k j, TT tb k i j → One es rt w (TT tb) k i j
  low : ∀ k i', i' < i → tb k i' = W2.zero
def upd (tb : Tb) (k i : Nat) (p : W2) : Tb := fun k' i' => if k' = k ∧ i' = i then p else tb k' i'
theorem upd_same (tb : Tb) (k i : Nat) (p : W2) : upd tb k i p k i = p := if_pos ⟨rfl, rfl⟩
theorem upd_other {tb : Tb} {k i k' i' : Nat} {p : W2} (h : ¬ (k' = k ∧ i' = i)) : upd tb k i p k' i' = tb k' i' := if_neg h
theorem zero_no (k i j : Nat) (tb : Tb) (h : tb k i = W2.zero) : ¬ TT tb k i j := by unfold TT; rw [h, W2.has_zero]; simp
theorem Good.start : Good es rt w (fun _ _ => W2.zero) w.length where
  ok := fun _ _ => W2.ok_zero
  fwd := fun k i j h => absurd h (zero_no k i j _ rfl)
  snd := fun k i j h => absurd h (zero_no k i j _ rfl)
  dn := fun i' h1 h2 => by omega
  inf := fun k j h => absurd h (zero_no k _ j _ rfl)
  low := fun _ _ _ => rfl
theorem Good.sup {tb : Tb} {i k : Nat} {p : W2} (hg : Good es rt w tb i) (hq : ∀ j, p.has j = true ↔ One es rt w (TT tb) k i j) {j : Nat} (h : TT tb k i j) : p.has j = true := (hq j).2 (hg.inf k j h)
theorem Good.step {tb : Tb} {i k : Nat} {p : W2} (hg : Good es rt w tb i) (hi : i ≤ w.length) (hp : p.Ok) (hq : ∀ j, p.has j = true ↔ One es rt w (TT tb) k i j) : Good es rt w (upd tb k i p) i := by
  have hup : ∀ k' i' j, TT tb k' i' j → TT (upd tb k i p) k' i' j := by
    intro k' i' j h
    unfold TT upd
    split
    · next e => obtain ⟨rfl, rfl⟩ := e; exact hg.sup es rt w hq h
    · exact h
  have hdn : ∀ k' i' j, TT (upd tb k i p) k' i' j → (k' = k ∧ i' = i ∧ One es rt w (TT tb) k i j) ∨ TT tb k' i' j := by
    intro k' i' j h
    unfold TT upd at h
    split at h
    · next e => obtain ⟨rfl, rfl⟩ := e; exact .inl ⟨rfl, rfl, (hq j).1 h⟩
    · exact .inr h
  refine ⟨?_, ?_, ?_, ?_, ?_, ?_⟩
  · intro k' i'
    unfold upd
    split
    · exact hp
    · exact hg.ok _ _
  · intro k' i' j h
    rcases hdn _ _ _ h with ⟨rfl, rfl, o⟩ | h
    · exact one_fwd es rt w hg.fwd hi o
    · exact hg.fwd _ _ _ h
  · intro k' i' j h
    rcases hdn _ _ _ h with ⟨rfl, rfl, o⟩ | h
    · exact E_closed es rt w (o.mono es rt w hg.snd)
    · exact hg.snd _ _ _ h
  · intro i' h1 h2 k' j o
    have hF : Fwd w (upd tb k i p) := by
      intro k' i' j h
      rcases hdn _ _ _ h with ⟨rfl, rfl, o⟩ | h
      · exact one_fwd es rt w hg.fwd hi o
      · exact hg.fwd _ _ _ h
    exact hup _ _ _ (hg.dn i' h1 h2 k' j (one_local es rt w hF (fun k2 i2 h3 => upd_other (fun e => by omega)) o))
  · intro k' j h
    rcases hdn _ _ _ h with ⟨rfl, _, o⟩ | h
    · exact o.mono es rt w hup
    · exact (hg.inf _ _ h).mono es rt w hup
  · intro k' i' h
    rw [upd_other (by omega)]
    exact hg.low _ _ h
theorem Good.next {tb : Tb} {i : Nat} (hg : Good es rt w tb (i + 1)) (hcl : ∀ k j, One es rt w (TT tb) k (i + 1) j → TT tb k (i + 1) j) : Good es rt w tb i := by
  refine ⟨hg.ok, hg.fwd, hg.snd, ?_, ?_, fun k i' h => hg.low k i' (by omega)⟩
  · intro i' h1 h2 k j o
    by_cases e : i' = i + 1
    · subst e; exact hcl k j o
    · exact hg.dn i' (by omega) h2 k j o
  · exact fun k j h => absurd h (zero_no k i j _ (hg.low k i (by omega)))
theorem Good.final {tb : Tb} (hg : Good es rt w tb 0) (hcl : ∀ k j, One es rt w (TT tb) k 0 j → TT tb k 0 j) {k i j : Nat} (hi : i ≤ w.length) : TT tb k i j ↔ E es rt w k i j := by
  refine ⟨hg.snd k i j, fun h => ?_⟩
  have hc : ∀ i', i' ≤ w.length → ∀ k j, One es rt w (TT tb) k i' j → TT tb k i' j := fun i' h2 k j o => by
    by_cases e : i' = 0
    · subst e; exact hcl k j o
    · exact hg.dn i' (by omega) h2 k j o
  refine h (fun k i j => i ≤ w.length → TT tb k i j) (fun k i j o hi => ?_) hi
  refine hc i hi k j ?_
  obtain ⟨x, hx, o⟩ := o
  refine ⟨x, hx, ?_⟩
  rcases o with o | o | ⟨o1, r, o2, o3⟩ | ⟨o1, m, o2, o3⟩ | ⟨o1, o2⟩ | ⟨o1, n, h1, h2, o2⟩
  · exact .inl o
  · exact .inr (.inl o)
  · exact .inr (.inr (.inl ⟨o1, r, o2, o3 hi⟩))
  · exact .inr (.inr (.inr (.inl ⟨o1, m, o2 hi, o3 (hg.fwd _ _ _ (o2 hi)).2⟩)))
  · exact .inr (.inr (.inr (.inr (.inl ⟨o1, o2.imp (fun h => h hi) (fun h => h hi)⟩))))
  · refine .inr (.inr (.inr (.inr (.inr ⟨o1, n, h1, h2, ?_⟩))))
    have : ∀ {n i j : Nat}, St (fun i j => i ≤ w.length → TT tb x.a.toNat i j) n i j → i ≤ w.length → St (TT tb x.a.toNat) n i j ∧ j ≤ w.length := by
      intro n i j s
      induction s with
      | zero i => exact fun h => ⟨.zero i, h⟩
      | succ s1 s2 ih => exact fun h => ⟨.succ (ih h).1 (s2 (ih h).2), (hg.fwd _ _ _ (s2 (ih h).2)).2⟩
    exact (this o2 hi).1
/-- How much is not yet in a place's column. -/
def miss (tb : Tb) (i : Nat) : Nat → Nat
  | 0 => 0
  | n + 1 => miss tb i n + (tb n i).cnt
theorem miss_far (tb : Tb) (i k : Nat) (p : W2) : ∀ n, n ≤ k → miss (upd tb k i p) i n = miss tb i n
  | 0, _ => rfl
  | n + 1, h => by
    unfold miss
    rw [miss_far tb i k p n (by omega), upd_other (by omega)]
theorem miss_lt {tb : Tb} {i k : Nat} {p : W2} (h : p.cnt < (tb k i).cnt) : ∀ n, k < n → miss (upd tb k i p) i n < miss tb i n
  | 0, hn => by omega
  | n + 1, hn => by
    unfold miss
    by_cases e : k = n
    · subst e
      rw [miss_far tb i k p k (Nat.le_refl _), upd_same]
      omega
    · have := miss_lt h n (by omega)
      rw [upd_other (by omega)]
      omega
end
end Ab
end Go.Proofs.YtckcgiimeaklcaaDoor
