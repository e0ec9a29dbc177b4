/-
  What the reader lays is in bounds: no program in sight.
-/
import Derived.Test.YtckcgiimeaklcaaDoorAb
namespace Go.Proofs.YtckcgiimeaklcaaDoor
set_option linter.unusedVariables false
set_option linter.unusedSimpArgs false
namespace Ab
def OkT : T → Prop
  | .txt t => t.length ≤ 8000
  | .spn _ _ => True
  | .nam t => t.length ≤ 8000
  | .both x y => OkT x ∧ OkT y
  | .eith x y => OkT x ∧ OkT y
  | .oft x lo hi => OkT x ∧ 0 ≤ lo ∧ lo ≤ 99 ∧ (hi = -1 ∨ (lo ≤ hi ∧ hi ≤ 99))
/-- What is read is in bounds, and what is left is no more. -/
def R.Fit (l : B) : R T → Prop
  | .ok t l' _ => OkT t ∧ l'.length ≤ l.length
  | .no _ => True
theorem fit_ite {l : B} {c : Prop} [Decidable c] {a b : R T} (h1 : c → a.Fit l) (h2 : ¬ c → b.Fit l) : (if c then a else b).Fit l := by
  split
  · next h => exact h1 h
  · next h => exact h2 h
theorem fit_mono {l m : B} {r : R T} (h : r.Fit l) (hl : l.length ≤ m.length) : r.Fit m := by
  cases r with
  | ok t l' n => exact ⟨h.1, Nat.le_trans h.2 hl⟩
  | no e => trivial
theorem fit_bnd {l : B} {r : R T} {f : T → B → Nat → R T} (h : r.Fit l) (hf : ∀ t l' n, OkT t → l'.length ≤ l.length → (f t l' n).Fit l) : (r.bnd f).Fit l := by
  cases r with
  | ok t l' n => exact hf t l' n h.1 h.2
  | no e => trivial
theorem fit_add {t : T} {l l' : B} {n : Nat} (h : OkT t) (hl : l'.length ≤ l.length) : (add t l' n).Fit l := fit_ite (fun _ => trivial) (fun _ => ⟨h, hl⟩)
theorem drop_le (l : B) (n : Nat) : (l.drop n).length ≤ l.length := by simp
theorem blanks_le (l : B) : (blanks l).length ≤ l.length := (List.dropWhile_sublist _).length_le
theorem name_le (l : B) : (name l).1.length ≤ l.length ∧ (name l).2.length ≤ l.length := by
  cases l with
  | nil => simp [name]
  | cons c t =>
    have h1 := (List.takeWhile_sublist nmc (l := t)).length_le
    have h2 := (List.dropWhile_sublist nmc (l := t)).length_le
    by_cases hc : letter c = true
    · simp [name, hc]; omega
    · simp [name, hc]
theorem number_fit (l : B) : (number l).2.2.length ≤ l.length ∧ 0 ≤ (number l).1 ∧ (number l).1 ≤ 99 := by
  rcases l with _ | ⟨c, t⟩
  · simp [number]
  · rcases t with _ | ⟨d, r⟩
    · by_cases hc : dig c
      · have := hc
        simp [dig] at this
        simp [number, hc]; omega
      · simp [number, hc]
    · by_cases hc : dig c
      · have h1 := hc
        simp [dig] at h1
        by_cases hd : dig d
        · have h2 := hd
          simp [dig] at h2
          simp [number, hc, hd]; omega
        · simp [number, hc, hd]; omega
      · simp [number, hc]
theorem hex_le {l r : B} {x : Nat} (h : hex l = some (x, r)) : r.length ≤ l.length := by
  rcases l with _ | ⟨a, _ | ⟨b, t⟩⟩
  · simp [hex] at h
  · simp [hex] at h
  · cases ha : hv a with
    | none => simp [hex, ha] at h
    | some m =>
      cases hb : hv b with
      | none => simp [hex, ha, hb] at h
      | some n =>
        simp [hex, ha, hb] at h
        obtain ⟨rfl, rfl⟩ := h
        simp; omega
theorem fit_lit {l : B} (hl : l.length ≤ 8000) (n : Nat) : (lit l n).Fit l := by
  have h1 := (List.takeWhile_sublist (· != (34 : UInt8)) (l := l)).length_le
  have h2 := (List.dropWhile_sublist (· != (34 : UInt8)) (l := l)).length_le
  unfold lit
  split
  · trivial
  · next d r e =>
    rw [e] at h2
    simp at h2
    exact fit_ite (fun _ => trivial) (fun _ => fit_add (by show _ ≤ 8000; omega) (by omega))
theorem fit_spans {l : B} (n : Nat) : (spans l n).Fit l := by
  unfold spans
  split
  · trivial
  · next x l1 h1 =>
    have e1 := hex_le h1
    refine fit_ite (fun _ => ?_) (fun _ => fit_add trivial e1)
    split
    · trivial
    · next y l2 h2 =>
      have e2 := hex_le h2
      have := drop_le l1 1
      exact fit_ite (fun _ => trivial) (fun _ => fit_add trivial (by omega))
theorem fit_named {l : B} (hl : l.length ≤ 8000) (n : Nat) : (named l n).Fit l := fit_ite (fun _ => trivial) (fun _ => fit_add (by show _ ≤ 8000; have := (name_le l).1; omega) (name_le l).2)
section
variable {g : UInt8 → B → Nat → R T} (hg : ∀ c (l : B) n, l.length ≤ 8000 → (g c l n).Fit l)
include hg
theorem fit_elm {l : B} (hl : l.length ≤ 8000) (n : Nat) : (elm g l n).Fit l := by
  have d1 := drop_le l 1
  have d2 := drop_le l 2
  refine fit_ite (fun _ => fit_mono (hg _ _ _ (by omega)) d1) (fun _ => fit_ite (fun _ => fit_bnd (fit_mono (hg _ _ _ (by omega)) d1) fun t l' n ht hl' => fit_add ?_ hl') (fun _ => fit_ite (fun _ => fit_mono (fit_lit (by omega) _) d1) (fun _ => fit_ite (fun _ => fit_mono (fit_spans _) d2) (fun _ => fit_named hl _))))
  exact ⟨ht, by omega, by omega, .inr (by omega)⟩
theorem fit_rpt {l : B} (hl : l.length ≤ 8000) (n : Nat) : (rpt g l n).Fit l := by
  obtain ⟨n1, n2, n3⟩ := number_fit l
  have d1 := drop_le (number l).2.2 1
  obtain ⟨m1, m2, m3⟩ := number_fit ((number l).2.2.drop 1)
  unfold rpt
  simp only
  refine fit_ite (fun _ => fit_ite (fun _ => trivial) (fun hb => ?_)) (fun _ => fit_ite (fun _ => ?_) (fun _ => fit_mono (fit_elm hg (by omega) _) n1))
  · refine fit_bnd (fit_mono (fit_elm hg (by omega) _) (by omega)) fun t l' n ht hl' => fit_add ⟨ht, n2, n3, ?_⟩ hl'
    by_cases h2 : (number ((number l).2.2.drop 1)).2.1 = true
    · rw [if_pos h2]
      exact .inr ⟨by have : ¬ (number ((number l).2.2.drop 1)).1 < (number l).1 := fun h => hb ⟨h2, h⟩
                     omega, m3⟩
    · rw [if_neg h2]; exact .inl rfl
  · exact fit_bnd (fit_mono (fit_elm hg (by omega) _) n1) fun t l' n ht hl' => fit_add ⟨ht, n2, n3, .inr ⟨by omega, n3⟩⟩ hl'
theorem fit_catl : ∀ (f : Nat) {a : T} {l : B} (n : Nat), OkT a → l.length ≤ 8000 → (catl g f a l n).Fit l
  | 0, _, _, _, _, _ => trivial
  | f + 1, a, l, n, ha, hl => fit_ite (fun _ => ⟨ha, Nat.le_refl _⟩) (fun _ => fit_bnd (fit_rpt hg hl _) fun t l' n ht hl' => fit_bnd (fit_add (t := .both a t) ⟨ha, ht⟩ hl') fun t2 l2 n2 ht2 hl2 => fit_mono (fit_catl f n2 ht2 (by have := blanks_le l2; omega)) (by have := blanks_le l2; omega))
theorem fit_cat (f0 : Nat) {l : B} (hl : l.length ≤ 8000) (n : Nat) : (cat f0 g l n).Fit l := by
  have := blanks_le l
  exact fit_bnd (fit_mono (fit_rpt hg (by omega) _) this) fun t l' n ht hl' => fit_mono (fit_catl hg f0 n ht (by have := blanks_le l'; omega)) (by have := blanks_le l'; omega)
theorem fit_altl (f0 : Nat) : ∀ (f : Nat) {a : T} {l : B} (n : Nat), OkT a → l.length ≤ 8000 → (altl f0 g f a l n).Fit l
  | 0, _, _, _, _, _ => trivial
  | f + 1, a, l, n, ha, hl => fit_ite (fun _ => fit_bnd (fit_mono (fit_cat hg f0 (by have := drop_le l 1; omega) _) (drop_le l 1)) fun t l' n ht hl' => fit_bnd (fit_add (t := .eith a t) ⟨ha, ht⟩ hl') fun t2 l2 n2 ht2 hl2 => fit_mono (fit_altl f0 f n2 ht2 (by omega)) hl2) (fun _ => ⟨ha, Nat.le_refl _⟩)
theorem fit_alt (f0 : Nat) {l : B} (hl : l.length ≤ 8000) (n : Nat) : (alt f0 g l n).Fit l := fit_bnd (fit_cat hg f0 hl _) fun t l' n ht hl' => fit_mono (fit_altl hg f0 f0 n ht (by omega)) hl'
end
theorem fit_grp (f0 : Nat) : ∀ (d : Nat) (c : UInt8) (l : B) (n : Nat), l.length ≤ 8000 → (grp f0 d c l n).Fit l
  | 0, _, _, _, _ => trivial
  | d + 1, c, l, n, hl => fit_bnd (fit_alt (fit_grp f0 d) f0 hl _) fun t l' n ht hl' => fit_ite (fun _ => ⟨ht, by have := drop_le l' 1; omega⟩) (fun _ => trivial)
/-- A rule that is read is in bounds. -/
theorem rule_fit {f0 : Nat} {rs : Rs} {l l' : B} {r : B × T} {n : Nat} (h : rule f0 rs l = .ok (some r) l' n) (hl : l.length ≤ 8000) : OkT r.2 ∧ r.1.length ≤ 8000 ∧ hasR rs r.1 = false := by
  have b1 := blanks_le l
  have b2 := blanks_le (name (blanks l)).2
  have b3 := name_le (blanks l)
  have b4 := drop_le (blanks (name (blanks l)).2) 1
  unfold rule at h
  split at h
  · cases h
  · split at h
    · cases h
    · split at h
      · cases h
      · split at h
        · have hf := fit_alt (fit_grp f0 16) f0 (l := (blanks (name (blanks l)).2).drop 1) (by omega) (szs rs)
          cases ha : alt f0 (grp f0 16) ((blanks (name (blanks l)).2).drop 1) (szs rs) with
          | no e => rw [ha] at h; cases h
          | ok t l1 n1 =>
            rw [ha] at h hf
            simp only [R.bnd] at h
            split at h
            · cases h
            · next hh =>
              cases h
              refine ⟨hf.1, by show (name (blanks l)).1.length ≤ 8000; omega, ?_⟩
              cases hx : hasR rs (name (blanks l)).1
              · rfl
              · exact absurd (Or.inl hx) hh
        · cases h
/-- An element that is in bounds, of number k. -/
def El.Ok (x : El) (k : Nat) : Prop := x.t.length ≤ 8000 ∧ (x.k = 0 ∨ x.k = 1 ∨ x.k = 2 ∨ ((x.k = 3 ∨ x.k = 4) ∧ 0 ≤ x.a ∧ x.a < k ∧ 0 ≤ x.b ∧ x.b < k) ∨ (x.k = 5 ∧ 0 ≤ x.a ∧ x.a < k ∧ 0 ≤ x.lo ∧ x.lo ≤ 99 ∧ (x.hi = -1 ∨ (x.lo ≤ x.hi ∧ x.hi ≤ 99))))
theorem post_ok : ∀ (t : T) (n i : Nat) (x : El), OkT t → (post n t)[i]? = some x → x.Ok (n + i)
  | .txt t, n, i, x, h, hx => by
    cases i with
    | zero => simp [post] at hx; subst hx; exact ⟨h, .inl rfl⟩
    | succ i => simp [post] at hx
  | .spn a b, n, i, x, h, hx => by
    cases i with
    | zero => simp [post] at hx; subst hx; exact ⟨by simp, .inr (.inl rfl)⟩
    | succ i => simp [post] at hx
  | .nam t, n, i, x, h, hx => by
    cases i with
    | zero => simp [post] at hx; subst hx; exact ⟨h, .inr (.inr (.inl rfl))⟩
    | succ i => simp [post] at hx
  | .both a b, n, i, x, h, hx => by
    have sa := sz_pos a
    have sb := sz_pos b
    simp only [post, List.append_assoc] at hx
    by_cases h1 : i < sz a
    · rw [List.getElem?_append_left (by rw [post_len]; exact h1)] at hx
      exact post_ok a n i x h.1 hx
    · rw [List.getElem?_append_right (by rw [post_len]; omega), post_len] at hx
      by_cases h2 : i - sz a < sz b
      · rw [List.getElem?_append_left (by rw [post_len]; exact h2)] at hx
        have := post_ok b _ _ x h.2 hx
        rw [show n + sz a + (i - sz a) = n + i by omega] at this
        exact this
      · rw [List.getElem?_append_right (by rw [post_len]; omega), post_len] at hx
        cases hi : i - sz a - sz b with
        | zero =>
          rw [hi] at hx
          simp at hx; subst hx
          refine ⟨by simp, .inr (.inr (.inr (.inl ⟨.inl rfl, ?_⟩)))⟩
          simp only [rootI]
          omega
        | succ j => rw [hi] at hx; simp at hx
  | .eith a b, n, i, x, h, hx => by
    have sa := sz_pos a
    have sb := sz_pos b
    simp only [post, List.append_assoc] at hx
    by_cases h1 : i < sz a
    · rw [List.getElem?_append_left (by rw [post_len]; exact h1)] at hx
      exact post_ok a n i x h.1 hx
    · rw [List.getElem?_append_right (by rw [post_len]; omega), post_len] at hx
      by_cases h2 : i - sz a < sz b
      · rw [List.getElem?_append_left (by rw [post_len]; exact h2)] at hx
        have := post_ok b _ _ x h.2 hx
        rw [show n + sz a + (i - sz a) = n + i by omega] at this
        exact this
      · rw [List.getElem?_append_right (by rw [post_len]; omega), post_len] at hx
        cases hi : i - sz a - sz b with
        | zero =>
          rw [hi] at hx
          simp at hx; subst hx
          refine ⟨by simp, .inr (.inr (.inr (.inl ⟨.inr rfl, ?_⟩)))⟩
          simp only [rootI]
          omega
        | succ j => rw [hi] at hx; simp at hx
  | .oft a lo hi, n, i, x, h, hx => by
    have sa := sz_pos a
    simp only [post] at hx
    by_cases h1 : i < sz a
    · rw [List.getElem?_append_left (by rw [post_len]; exact h1)] at hx
      exact post_ok a n i x h.1 hx
    · rw [List.getElem?_append_right (by rw [post_len]; omega), post_len] at hx
      cases hi : i - sz a with
      | zero =>
        rw [hi] at hx
        simp at hx; subst hx
        refine ⟨by simp, .inr (.inr (.inr (.inr ⟨rfl, ?_⟩)))⟩
        obtain ⟨_, h2, h3, h4⟩ := h
        refine ⟨?_, ?_, h2, h3, h4⟩
        · simp only [rootI]; omega
        · simp only [rootI]; omega
      | succ j => rw [hi] at hx; simp at hx
theorem els_ok : ∀ (rs : Rs) (n i : Nat) (x : El), (∀ r ∈ rs, OkT r.2) → (els n rs)[i]? = some x → x.Ok (n + i)
  | [], n, i, x, h, hx => by simp [els] at hx
  | r :: rs, n, i, x, h, hx => by
    simp only [els] at hx
    by_cases h1 : i < sz r.2
    · rw [List.getElem?_append_left (by rw [post_len]; exact h1)] at hx
      exact post_ok r.2 n i x (h r (by simp)) hx
    · rw [List.getElem?_append_right (by rw [post_len]; omega), post_len] at hx
      have := els_ok rs _ _ x (fun r hr => h r (by simp [hr])) hx
      rw [show n + sz r.2 + (i - sz r.2) = n + i by omega] at this
      exact this
end Ab
end Go.Proofs.YtckcgiimeaklcaaDoor
