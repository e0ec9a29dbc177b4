/-
  A table that can be reckoned: no program in sight.
-/
import Derived.Test.YtckcgiimeaklcaaDoorDv
import Derived.Test.YtckcgiimeaklcaaDoorOn
namespace Go.Proofs.YtckcgiimeaklcaaDoor
set_option linter.unusedVariables false
set_option linter.unusedSimpArgs false
namespace Ab
abbrev LT := List (List (List Nat))
def lat (t : LT) (k i : Nat) : List Nat := (t.getD k []).getD i []
def litB (w t : B) (i : Nat) : Bool := decide (i + t.length ≤ w.length) && ((List.range t.length).all fun k => alk (t.getD k 0) (w.getD (i + k) 0))
def stepL (L : Nat) (f : Nat → List Nat) (s : List Nat) : List Nat := (List.range (L + 1)).filter fun j => s.any fun p => (f p).contains j
def itL (L : Nat) (f : Nat → List Nat) (i : Nat) : Nat → List Nat
  | 0 => [i]
  | n + 1 => stepL L f (itL L f i n)
/-- From lo to lo + n steps. -/
def unL (L : Nat) (f : Nat → List Nat) (i lo : Nat) : Nat → List Nat
  | 0 => itL L f i lo
  | n + 1 => unL L f i lo n ++ itL L f i (lo + (n + 1))
def oftL (L : Nat) (f : Nat → List Nat) (i : Nat) (lo hi : Int) : List Nat := if hi = -1 then unL L f i lo.toNat (L + 1) else if lo ≤ hi then unL L f i lo.toNat (hi - lo).toNat else []
def oneL (es : List El) (rt : B → Option Nat) (w : B) (t : LT) (k i : Nat) : List Nat :=
  match es[k]? with
  | none => []
  | some x =>
    if x.k = 0 then (if litB w x.t i then [i + x.t.length] else [])
    else if x.k = 1 then (if i < w.length ∧ x.lo ≤ ((w.getD i 0).toNat : Int) ∧ ((w.getD i 0).toNat : Int) ≤ x.hi then [i + 1] else [])
    else if x.k = 2 then (match rt x.t with | some r => lat t r i | none => [])
    else if x.k = 3 then stepL w.length (lat t x.b.toNat) (lat t x.a.toNat i)
    else if x.k = 4 then lat t x.a.toNat i ++ lat t x.b.toNat i
    else if x.k = 5 then oftL w.length (lat t x.a.toNat) i x.lo x.hi
    else []
def nextT (es : List El) (rt : B → Option Nat) (w : B) (t : LT) : LT := (List.range es.length).map fun k => (List.range (w.length + 1)).map fun i => oneL es rt w t k i
def iterT (es : List El) (rt : B → Option Nat) (w : B) : Nat → LT
  | 0 => []
  | n + 1 => nextT es rt w (iterT es rt w n)
def sub (a b : List Nat) : Bool := a.all fun j => b.contains j
/-- Nothing new, whatever is done. -/
def closedB (es : List El) (rt : B → Option Nat) (w : B) (t : LT) : Bool :=
  (List.range es.length).all fun k => (List.range (w.length + 1)).all fun i =>
    sub (oneL es rt w t k i) (lat t k i) && (lat t k i).all (fun j => decide (j ≤ w.length)) &&
    (match es[k]? with
      | some x => if x.k = 5 then (decide (0 ≤ x.lo ∧ x.a.toNat < es.length)) && (if x.hi = -1 then sub (itL w.length (lat t x.a.toNat) i (x.lo.toNat + (w.length + 1) + 1)) (unL w.length (lat t x.a.toNat) i x.lo.toNat (w.length + 1)) else true) else true
      | none => true)
theorem litB_iff (w t : B) (i : Nat) : litB w t i = true ↔ LitAt w t i := by
  unfold litB LitAt
  rw [Bool.and_eq_true, decide_eq_true_eq, List.all_eq_true]
  simp only [List.mem_range]
theorem mem_step {L : Nat} {f : Nat → List Nat} {s : List Nat} {j : Nat} : j ∈ stepL L f s ↔ j ≤ L ∧ ∃ p, p ∈ s ∧ j ∈ f p := by
  unfold stepL
  rw [List.mem_filter, List.mem_range, List.any_eq_true]
  simp only [List.contains_iff_mem]
  constructor
  · rintro ⟨h1, p, h2, h3⟩
    exact ⟨by omega, p, h2, h3⟩
  · rintro ⟨h1, p, h2, h3⟩
    exact ⟨by omega, p, h2, h3⟩
theorem it_sound {L : Nat} {f : Nat → List Nat} {i : Nat} : ∀ (n : Nat) {j : Nat}, j ∈ itL L f i n → St (fun p q => q ∈ f p) n i j
  | 0, j, h => by
    have : j = i := by simpa [itL] using h
    subst this
    exact .zero j
  | n + 1, j, h => by
    obtain ⟨_, p, h2, h3⟩ := mem_step.1 h
    exact .succ (it_sound n h2) h3
theorem un_iff {L : Nat} {f : Nat → List Nat} {i lo j : Nat} : ∀ n, j ∈ unL L f i lo n ↔ ∃ m, lo ≤ m ∧ m ≤ lo + n ∧ j ∈ itL L f i m
  | 0 => by
    constructor
    · intro h; exact ⟨lo, by omega, by omega, h⟩
    · rintro ⟨m, h1, h2, h3⟩
      obtain rfl : m = lo := by omega
      exact h3
  | n + 1 => by
    unfold unL
    rw [List.mem_append, un_iff n]
    constructor
    · rintro (⟨m, h1, h2, h3⟩ | h)
      · exact ⟨m, h1, by omega, h3⟩
      · exact ⟨_, by omega, by omega, h⟩
    · rintro ⟨m, h1, h2, h3⟩
      by_cases e : m = lo + (n + 1)
      · subst e; exact .inr h3
      · exact .inl ⟨m, h1, by omega, h3⟩
theorem oft_sound {L : Nat} {f : Nat → List Nat} {i j : Nat} {lo hi : Int} (h0 : 0 ≤ lo) (h : j ∈ oftL L f i lo hi) : Ofts (fun p q => q ∈ f p) lo hi i j := by
  unfold oftL at h
  split at h
  · next hh =>
    obtain ⟨m, h1, h2, h3⟩ := (un_iff _).1 h
    exact ⟨m, by omega, .inl hh, it_sound m h3⟩
  · split at h
    · next h1 h2 =>
      obtain ⟨m, h3, h4, h5⟩ := (un_iff _).1 h
      exact ⟨m, by omega, .inr (by omega), it_sound m h5⟩
    · cases h
section
variable {es : List El} {rt : B → Option Nat} {w : B} {t : LT}
theorem one_sound {k i j : Nat} (hlo : ∀ x ∈ es, x.k = 5 → 0 ≤ x.lo) (h : j ∈ oneL es rt w t k i) : One es rt w (fun k i j => j ∈ lat t k i) k i j := by
  unfold oneL at h
  cases hx : es[k]? with
  | none => rw [hx] at h; cases h
  | some x =>
    rw [hx] at h
    simp only at h
    refine ⟨x, hx, ?_⟩
    by_cases h0 : x.k = 0
    · rw [if_pos h0] at h
      split at h
      · next hl => exact .inl ⟨h0, (litB_iff _ _ _).1 hl, by simpa using h⟩
      · cases h
    rw [if_neg h0] at h
    by_cases h1 : x.k = 1
    · rw [if_pos h1] at h
      split at h
      · next hl => exact .inr (.inl ⟨h1, hl, by simpa using h⟩)
      · cases h
    rw [if_neg h1] at h
    by_cases h2 : x.k = 2
    · rw [if_pos h2] at h
      cases hr : rt x.t with
      | none => rw [hr] at h; cases h
      | some r => rw [hr] at h; exact .inr (.inr (.inl ⟨h2, r, rfl, h⟩))
    rw [if_neg h2] at h
    by_cases h3 : x.k = 3
    · rw [if_pos h3] at h
      obtain ⟨_, p, h4, h5⟩ := mem_step.1 h
      exact .inr (.inr (.inr (.inl ⟨h3, p, h4, h5⟩)))
    rw [if_neg h3] at h
    by_cases h4 : x.k = 4
    · rw [if_pos h4] at h
      exact .inr (.inr (.inr (.inr (.inl ⟨h4, List.mem_append.1 h⟩))))
    rw [if_neg h4] at h
    by_cases h5 : x.k = 5
    · rw [if_pos h5] at h
      exact .inr (.inr (.inr (.inr (.inr ⟨h5, oft_sound (hlo x (List.mem_of_getElem? hx) h5) h⟩))))
    rw [if_neg h5] at h
    cases h
theorem lat_next {k i : Nat} : lat (nextT es rt w t) k i = if k < es.length ∧ i ≤ w.length then oneL es rt w t k i else [] := by
  unfold lat nextT
  simp only [List.getD_eq_getElem?_getD, List.getElem?_map]
  by_cases hk : k < es.length
  · have h1 : (List.range es.length)[k]? = some k := List.getElem?_range hk
    rw [h1]
    simp only [Option.map_some, Option.getD_some, List.getElem?_map]
    by_cases hi : i ≤ w.length
    · have h2 : (List.range (w.length + 1))[i]? = some i := List.getElem?_range (by omega)
      rw [h2, if_pos ⟨hk, hi⟩]
      rfl
    · have h2 : (List.range (w.length + 1))[i]? = none := List.getElem?_eq_none (by rw [List.length_range]; omega)
      rw [h2, if_neg (fun h => hi h.2)]
      rfl
  · have h1 : (List.range es.length)[k]? = none := List.getElem?_eq_none (by rw [List.length_range]; omega)
    rw [h1, if_neg (fun h => hk h.1)]
    simp
theorem iter_sound (hlo : ∀ x ∈ es, x.k = 5 → 0 ≤ x.lo) : ∀ (n : Nat) (k i j : Nat), j ∈ lat (iterT es rt w n) k i → E es rt w k i j
  | 0, k, i, j, h => by simp [iterT, lat] at h
  | n + 1, k, i, j, h => by
    unfold iterT at h
    rw [lat_next] at h
    split at h
    · exact E_closed es rt w ((one_sound hlo h).mono es rt w (iter_sound hlo n))
    · cases h
theorem sub_iff {a b : List Nat} (h : sub a b = true) {j : Nat} (hj : j ∈ a) : j ∈ b := by
  unfold sub at h
  rw [List.all_eq_true] at h
  simpa using h j hj
theorem it_complete {L : Nat} {f : Nat → List Nat} {n i j : Nat} (s : St (fun p q => p ≤ L → q ≤ L ∧ q ∈ f p) n i j) : i ≤ L → j ≤ L ∧ j ∈ itL L f i n := by
  induction s with
  | zero i => exact fun h => ⟨h, by simp [itL]⟩
  | succ s1 s2 ih =>
    intro h
    obtain ⟨h1, h2⟩ := ih h
    obtain ⟨h3, h4⟩ := s2 h1
    exact ⟨h3, mem_step.2 ⟨h3, _, h2, h4⟩⟩
theorem closed_complete (hc : closedB es rt w t = true) {k i j : Nat} (h : E es rt w k i j) (hi : i ≤ w.length) : j ≤ w.length ∧ j ∈ lat t k i := by
  refine h (fun k i j => i ≤ w.length → j ≤ w.length ∧ j ∈ lat t k i) (fun k i j o hi => ?_) hi
  obtain ⟨x, hx, o⟩ := o
  have hk : k < es.length := (List.getElem?_eq_some_iff.1 hx).1
  unfold closedB at hc
  rw [List.all_eq_true] at hc
  have h1 := hc k (List.mem_range.2 hk)
  rw [List.all_eq_true] at h1
  have h2 := h1 i (List.mem_range.2 (by omega))
  rw [hx] at h2
  simp only [Bool.and_eq_true] at h2
  obtain ⟨⟨h3, h4⟩, h5⟩ := h2
  have fin : j ∈ oneL es rt w t k i → j ≤ w.length ∧ j ∈ lat t k i := fun hj => by
    have := sub_iff h3 hj
    rw [List.all_eq_true] at h4
    exact ⟨by simpa using h4 j this, this⟩
  apply fin
  unfold oneL
  rw [hx]
  simp only
  rcases o with ⟨o1, o2, o3⟩ | ⟨o1, o2, o3⟩ | ⟨o1, r, o2, o3⟩ | ⟨o1, m, o2, o3⟩ | ⟨o1, o2⟩ | ⟨o1, o2⟩
  · rw [if_pos o1, if_pos ((litB_iff _ _ _).2 o2)]
    simp [o3]
  · have o4 : i < w.length ∧ x.lo ≤ ((w.getD i 0).toNat : Int) ∧ ((w.getD i 0).toNat : Int) ≤ x.hi := o2
    rw [if_neg (by omega), if_pos o1, if_pos o4]
    simp [o3]
  · rw [if_neg (by omega), if_neg (by omega), if_pos o1, o2]
    exact (o3 hi).2
  · rw [if_neg (by omega), if_neg (by omega), if_neg (by omega), if_pos o1]
    exact mem_step.2 ⟨(o3 (o2 hi).1).1, m, (o2 hi).2, (o3 (o2 hi).1).2⟩
  · rw [if_neg (by omega), if_neg (by omega), if_neg (by omega), if_neg (by omega), if_pos o1]
    exact List.mem_append.2 (o2.imp (fun h => (h hi).2) (fun h => (h hi).2))
  · rw [if_neg (by omega), if_neg (by omega), if_neg (by omega), if_neg (by omega), if_neg (by omega), if_pos o1]
    rw [if_pos o1] at h5
    rw [Bool.and_eq_true, decide_eq_true_eq] at h5
    obtain ⟨h6, h7⟩ := h5
    obtain ⟨n, n1, n2, n3⟩ := o2
    unfold oftL
    by_cases hh : x.hi = -1
    · rw [if_pos hh] at h7 ⊢
      have hd : ∀ j, St (fun p q => p ≤ w.length → q ≤ w.length ∧ q ∈ lat t x.a.toNat p) (x.lo.toNat + (w.length + 1) + 1) i j → ∃ m, x.lo.toNat ≤ m ∧ m ≤ x.lo.toNat + (w.length + 1) ∧ St (fun p q => p ≤ w.length → q ≤ w.length ∧ q ∈ lat t x.a.toNat p) m i j := by
        intro j s
        obtain ⟨m, m1, m2, m3⟩ := (un_iff _).1 (sub_iff h7 (it_complete s hi).2)
        refine ⟨m, m1, m2, ?_⟩
        have h8 : ∀ {n i j : Nat}, St (fun p q => q ∈ lat t x.a.toNat p) n i j → (∀ p q, q ∈ lat t x.a.toNat p → p ≤ w.length → q ≤ w.length) → St (fun p q => p ≤ w.length → q ≤ w.length ∧ q ∈ lat t x.a.toNat p) n i j := by
          intro n i j s hb
          exact s.mono (fun p q h hp => ⟨hb p q h hp, h⟩)
        refine h8 (it_sound m m3) fun p q hq hp => ?_
        have h9 := hc x.a.toNat (List.mem_range.2 h6.2)
        rw [List.all_eq_true] at h9
        have h10 := h9 p (List.mem_range.2 (by omega))
        simp only [Bool.and_eq_true] at h10
        have h11 := h10.1.2
        rw [List.all_eq_true] at h11
        simpa using h11 q hq
      obtain ⟨m', p1, p2, p3⟩ := St.done hd (by omega) n (by omega) j n3
      exact (un_iff _).2 ⟨m', p1, p2, (it_complete p3 hi).2⟩
    · rw [if_neg hh]
      rcases n2 with n2 | n2
      · exact absurd n2 hh
      · rw [if_pos (by omega)]
        exact (un_iff _).2 ⟨n, by omega, by omega, (it_complete n3 hi).2⟩
/-- What is derived, where the table is closed. -/
def ck (es : List El) (rt : B → Option Nat) (w : B) (z N : Nat) : Option Bool := let t := iterT es rt w N; if closedB es rt w t then some ((lat t z 0).contains w.length) else none
theorem ck_iff (hlo : ∀ x ∈ es, x.k = 5 → 0 ≤ x.lo) {z N : Nat} {b : Bool} (h : ck es rt w z N = some b) : b = true ↔ E es rt w z 0 w.length := by
  unfold ck at h
  simp only at h
  split at h
  · next hc =>
    cases h
    rw [List.contains_iff_mem]
    exact ⟨iter_sound hlo N _ _ _, fun h => (closed_complete hc h (by omega)).2⟩
  · cases h
end
/-- What a text's rule derives. -/
def drv (text rule w : B) (N : Nat) : Option Bool := match read text with
  | .good rs _ => (match root 0 rs rule with
    | some z => ck (els 0 rs) (rt rs) w z.toNat N
    | none => none)
  | .bad _ _ => none
end Ab
end Go.Proofs.YtckcgiimeaklcaaDoor
