/-
  What is read of a text is read of it with a blank behind, too, whatever the number of elements before it: no program in sight.
-/
import Derived.Test.YtckcgiimeaklcaaDoorAok
import Derived.Test.YtckcgiimeaklcaaDoorAxD
namespace Go.Proofs.YtckcgiimeaklcaaDoor
set_option linter.unusedVariables false
set_option linter.unusedSimpArgs false
namespace Ab
def Ex (l k : B) : Prop := k = l ∨ k = l ++ [32]
def Ey (l k : B) : Prop := k = l ∨ (l ≠ [] ∧ k = l ++ [32])
theorem Ey.ex {l k : B} (h : Ey l k) : Ex l k := h.imp id (·.2)
theorem ex_blanks {l k : B} (h : Ex l k) : Ey (blanks l) (blanks k) := by
  rcases h with rfl | rfl
  · exact .inl rfl
  · unfold blanks
    rw [List.dropWhile_append]
    cases hb : l.dropWhile (· == 32) with
    | nil => exact .inl rfl
    | cons c r => exact .inr ⟨by simp, by simp⟩
theorem ex_drop {l k : B} (h : Ex l k) : Ex (l.drop 1) (k.drop 1) := by
  rcases h with rfl | rfl
  · exact .inl rfl
  · cases l with
    | nil => exact .inl rfl
    | cons c r => exact .inr rfl
theorem ex_nx {c : UInt8} (hc : c ≠ 32) {l k : B} (h : Ex l k) : nx c k = nx c l := by
  rcases h with rfl | rfl
  · rfl
  · cases l with
    | nil => simpa [nx] using fun e => hc e.symm
    | cons d r => rfl
theorem ey_stops {l k : B} (h : Ey l k) : stops k = stops l := by
  rcases h with rfl | ⟨hn, rfl⟩
  · rfl
  · cases l with
    | nil => exact absurd rfl hn
    | cons d r => rfl
theorem tw_more {p : UInt8 → Bool} {d : UInt8} {r m : B} : ∀ (l : B), l.dropWhile p = d :: r → (l ++ m).takeWhile p = l.takeWhile p ∧ (l ++ m).dropWhile p = d :: (r ++ m)
  | [], h => by simp at h
  | c :: t, h => by
    by_cases hc : p c = true
    · rw [List.dropWhile_cons_of_pos hc] at h
      obtain ⟨h1, h2⟩ := tw_more t h
      rw [List.cons_append, List.takeWhile_cons_of_pos hc, List.takeWhile_cons_of_pos hc, List.dropWhile_cons_of_pos hc, h1, h2]
      exact ⟨rfl, rfl⟩
    · rw [List.dropWhile_cons_of_neg hc] at h
      rw [List.cons_append, List.takeWhile_cons_of_neg hc, List.takeWhile_cons_of_neg hc, List.dropWhile_cons_of_neg hc]
      cases h
      exact ⟨rfl, rfl⟩
theorem nm_more : ∀ (t : B), (t ++ [32]).takeWhile nmc = t.takeWhile nmc ∧ (t ++ [32]).dropWhile nmc = t.dropWhile nmc ++ [32]
  | [] => by decide
  | c :: t => by
    obtain ⟨h1, h2⟩ := nm_more t
    by_cases hc : nmc c = true
    · rw [List.cons_append, List.takeWhile_cons_of_pos hc, List.takeWhile_cons_of_pos hc, List.dropWhile_cons_of_pos hc, List.dropWhile_cons_of_pos hc, h1, h2]
      exact ⟨rfl, rfl⟩
    · rw [List.cons_append, List.takeWhile_cons_of_neg hc, List.takeWhile_cons_of_neg hc, List.dropWhile_cons_of_neg hc, List.dropWhile_cons_of_neg hc]
      exact ⟨rfl, rfl⟩
theorem ex_name {l k : B} (h : Ex l k) : (name k).1 = (name l).1 ∧ Ex (name l).2 (name k).2 := by
  rcases h with rfl | rfl
  · exact ⟨rfl, .inl rfl⟩
  · cases l with
    | nil => exact ⟨by decide, .inr (by decide)⟩
    | cons c t =>
      obtain ⟨h1, h2⟩ := nm_more t
      by_cases hc : letter c = true
      · simp only [name, List.cons_append, hc, if_true]
        rw [h1, h2]
        exact ⟨rfl, .inr rfl⟩
      · simp only [name, List.cons_append, hc]
        exact ⟨rfl, .inr rfl⟩
theorem ex_number {l k : B} (h : Ex l k) : (number k).1 = (number l).1 ∧ (number k).2.1 = (number l).2.1 ∧ Ex (number l).2.2 (number k).2.2 := by
  rcases h with rfl | rfl
  · exact ⟨rfl, rfl, .inl rfl⟩
  · have h32 : dig 32 = false := by decide
    rcases l with _ | ⟨c, t⟩
    · exact ⟨by decide, by decide, .inr (by decide)⟩
    · rcases t with _ | ⟨d, r⟩
      · by_cases hc : dig c = true
        · simp [number, hc, h32, Ex]
        · simp [number, hc, Ex]
      · by_cases hc : dig c = true
        · by_cases hd : dig d = true
          · simp [number, hc, hd, Ex]
          · simp [number, hc, hd, Ex]
        · simp [number, hc, Ex]
theorem number_lt {l : B} (h : (number l).2.1 = true) : (number l).2.2.length + 1 ≤ l.length := by
  rcases l with _ | ⟨c, t⟩
  · simp [number] at h
  · rcases t with _ | ⟨d, r⟩
    · by_cases hc : dig c = true
      · simp [number, hc]
      · simp [number, hc] at h
    · by_cases hc : dig c = true
      · by_cases hd : dig d = true
        · simp [number, hc, hd]
        · simp [number, hc, hd]
      · simp [number, hc] at h
theorem ex_hex {l k r : B} {x : Nat} (h : Ex l k) (hx : hex l = some (x, r)) : r.length + 2 = l.length ∧ ∃ r', hex k = some (x, r') ∧ Ex r r' := by
  rcases l with _ | ⟨a, _ | ⟨b, t⟩⟩
  · simp [hex] at hx
  · simp [hex] at hx
  · cases ha : hv a with
    | none => simp [hex, ha] at hx
    | some m =>
      cases hb : hv b with
      | none => simp [hex, ha, hb] at hx
      | some n =>
        simp [hex, ha, hb] at hx
        obtain ⟨rfl, rfl⟩ := hx
        refine ⟨rfl, ?_⟩
        rcases h with rfl | rfl
        · exact ⟨t, by simp [hex, ha, hb], .inl rfl⟩
        · exact ⟨t ++ [32], by simp [hex, ha, hb], .inr rfl⟩
theorem bnd_ok {α β : Type} {r : R α} {f : α → B → Nat → R β} {v : β} {l : B} {n : Nat} (h : r.bnd f = .ok v l n) : ∃ v1 l1 n1, r = .ok v1 l1 n1 ∧ f v1 l1 n1 = .ok v l n := by
  cases r with
  | ok v1 l1 n1 => exact ⟨v1, l1, n1, rfl, h⟩
  | no e => cases h
theorem add_yes {t : T} {k : B} {m : Nat} (h : m + 1 ≤ 1500) : add t k m = .ok t k (m + 1) := if_neg (by omega)
/-- What is read of l, a blank behind it or not, and whatever was read before. -/
def Fr (P : B → B → Prop) (f : B → Nat → R T) (l : B) : Prop := ∀ n t l' n', f l n = .ok t l' n' → n' = n + sz t ∧ sz t + 1 + 2 * l'.length ≤ 2 * l.length ∧ ∀ k m, Ex l k → m + sz t ≤ 1500 → ∃ k', P l' k' ∧ f k m = .ok t k' (m + sz t)
theorem fr_lit (l : B) : Fr Ex lit l := by
  intro n t l' n' h
  cases hd : l.dropWhile (· != 34) with
  | nil => simp [lit, hd] at h
  | cons d r =>
    have h1 : lit l n = if (l.takeWhile (· != 34)).any odd then .no 8 else add (.txt (l.takeWhile (· != 34))) r n := by unfold lit; rw [hd]
    rw [h1] at h
    split at h
    · cases h
    · next ho =>
      obtain ⟨rfl, rfl, rfl⟩ := add_ok h
      have hl := (List.dropWhile_sublist (· != (34 : UInt8)) (l := l)).length_le
      rw [hd] at hl
      simp at hl
      refine ⟨rfl, by simp only [sz]; omega, fun k m hk hm => ?_⟩
      simp only [sz] at hm
      rcases hk with rfl | rfl
      · exact ⟨r, .inl rfl, by unfold lit; rw [hd]; simp only [if_neg ho]; exact add_yes hm⟩
      · obtain ⟨e1, e2⟩ := tw_more (m := [32]) l hd
        exact ⟨r ++ [32], .inr rfl, by unfold lit; rw [e1, e2]; simp only [if_neg ho]; exact add_yes hm⟩
theorem fr_spans (l : B) : Fr Ex spans l := by
  intro n t l' n' h
  unfold spans at h
  cases h1 : hex l with
  | none => rw [h1] at h; cases h
  | some xr =>
    obtain ⟨x, l1⟩ := xr
    rw [h1] at h
    simp only at h
    split at h
    · next h45 =>
      cases h2 : hex (l1.drop 1) with
      | none => rw [h2] at h; cases h
      | some yr =>
        obtain ⟨y, l2⟩ := yr
        rw [h2] at h
        simp only at h
        split at h
        · cases h
        · next hyx =>
          obtain ⟨rfl, rfl, rfl⟩ := add_ok h
          have q1 := (ex_hex (.inl rfl) h1).1
          have q2 := (ex_hex (.inl rfl) h2).1
          have q3 := drop_le l1 1
          refine ⟨rfl, by simp only [sz]; omega, fun k m hk hm => ?_⟩
          simp only [sz] at hm
          obtain ⟨_, k1, e1, x1⟩ := ex_hex hk h1
          obtain ⟨_, k2, e2, x2⟩ := ex_hex (ex_drop x1) h2
          refine ⟨k2, x2, ?_⟩
          unfold spans
          rw [e1]
          simp only
          rw [ex_nx (by decide) x1, if_pos h45, e2]
          simp only
          rw [if_neg hyx]
          exact add_yes hm
    · next h45 =>
      obtain ⟨rfl, rfl, rfl⟩ := add_ok h
      have q1 := (ex_hex (.inl rfl) h1).1
      refine ⟨rfl, by simp only [sz]; omega, fun k m hk hm => ?_⟩
      simp only [sz] at hm
      obtain ⟨_, k1, e1, x1⟩ := ex_hex hk h1
      refine ⟨k1, x1, ?_⟩
      unfold spans
      rw [e1]
      simp only
      rw [ex_nx (by decide) x1, if_neg h45]
      exact add_yes hm
theorem name_split (l : B) : (name l).1.length + (name l).2.length = l.length := by
  rw [name_eq]
  have := nm_le l
  simp
  omega
theorem fr_named (l : B) : Fr Ex named l := by
  intro n t l' n' h
  unfold named at h
  split at h
  · cases h
  · next hn =>
    obtain ⟨rfl, rfl, rfl⟩ := add_ok h
    have hs := name_split l
    have hp : 0 < (name l).1.length := List.length_pos_iff.2 hn
    refine ⟨rfl, by simp only [sz]; omega, fun k m hk hm => ?_⟩
    simp only [sz] at hm
    obtain ⟨e1, x1⟩ := ex_name hk
    refine ⟨_, x1, ?_⟩
    unfold named
    rw [e1, if_neg hn]
    exact add_yes hm
section
variable {g : UInt8 → B → Nat → R T} (hg : ∀ c l, Fr Ex (g c) l)
include hg
theorem fr_elm (l : B) : Fr Ex (elm g) l := by
  intro n t l' n' h
  unfold elm at h
  by_cases h40 : nx 40 l = true
  · rw [if_pos h40] at h
    obtain ⟨r, rfl⟩ := nx_cons h40
    obtain ⟨e1, e2, e3⟩ := hg 41 _ n t l' n' h
    refine ⟨e1, by simp at e2 ⊢; omega, fun k m hk hm => ?_⟩
    obtain ⟨k', x1, x2⟩ := e3 (k.drop 1) m (ex_drop hk) hm
    refine ⟨k', x1, ?_⟩
    unfold elm
    rw [ex_nx (by decide) hk, if_pos h40]
    exact x2
  rw [if_neg h40] at h
  by_cases h91 : nx 91 l = true
  · rw [if_pos h91] at h
    obtain ⟨t1, l1, n1, h1, h2⟩ := bnd_ok h
    obtain ⟨rfl, rfl, rfl⟩ := add_ok h2
    obtain ⟨r, rfl⟩ := nx_cons h91
    obtain ⟨e1, e2, e3⟩ := hg 93 _ n t1 l1 n1 h1
    refine ⟨by simp only [sz]; omega, by simp only [sz, List.drop_one, List.tail_cons, List.length_cons] at *; omega, fun k m hk hm => ?_⟩
    simp only [sz] at hm ⊢
    obtain ⟨k', x1, x2⟩ := e3 (k.drop 1) m (ex_drop hk) (by omega)
    refine ⟨k', x1, ?_⟩
    unfold elm
    rw [ex_nx (by decide) hk, if_neg h40, ex_nx (by decide) hk, if_pos h91, x2]
    exact add_yes (by omega)
  rw [if_neg h91] at h
  by_cases h34 : nx 34 l = true
  · rw [if_pos h34] at h
    obtain ⟨r, rfl⟩ := nx_cons h34
    obtain ⟨e1, e2, e3⟩ := fr_lit _ n t l' n' h
    refine ⟨e1, by simp at e2 ⊢; omega, fun k m hk hm => ?_⟩
    obtain ⟨k', x1, x2⟩ := e3 (k.drop 1) m (ex_drop hk) hm
    refine ⟨k', x1, ?_⟩
    unfold elm
    rw [ex_nx (by decide) hk, if_neg h40, ex_nx (by decide) hk, if_neg h91, ex_nx (by decide) hk, if_pos h34]
    exact x2
  rw [if_neg h34] at h
  by_cases h37 : (nx 37 l && nx 120 (l.drop 1)) = true
  · rw [if_pos h37] at h
    obtain ⟨e1, e2, e3⟩ := fr_spans _ n t l' n' h
    have hdl := drop_le l 2
    refine ⟨e1, by omega, fun k m hk hm => ?_⟩
    have hk2 : Ex (l.drop 2) (k.drop 2) := by
      have := ex_drop (ex_drop hk)
      simpa using this
    obtain ⟨k', x1, x2⟩ := e3 (k.drop 2) m hk2 hm
    refine ⟨k', x1, ?_⟩
    unfold elm
    rw [ex_nx (by decide) hk, if_neg h40, ex_nx (by decide) hk, if_neg h91, ex_nx (by decide) hk, if_neg h34, ex_nx (by decide) hk, ex_nx (by decide) (ex_drop hk), if_pos h37]
    exact x2
  · rw [if_neg h37] at h
    obtain ⟨e1, e2, e3⟩ := fr_named _ n t l' n' h
    refine ⟨e1, e2, fun k m hk hm => ?_⟩
    obtain ⟨k', x1, x2⟩ := e3 k m hk hm
    refine ⟨k', x1, ?_⟩
    unfold elm
    rw [ex_nx (by decide) hk, if_neg h40, ex_nx (by decide) hk, if_neg h91, ex_nx (by decide) hk, if_neg h34, ex_nx (by decide) hk, ex_nx (by decide) (ex_drop hk), if_neg h37]
    exact x2
theorem fr_rpt (l : B) : Fr Ex (rpt g) l := by
  intro n t l' n' h
  unfold rpt at h
  simp only at h
  have hn := number_len l
  by_cases h42 : nx 42 (number l).2.2 = true
  · rw [if_pos h42] at h
    obtain ⟨r, hr⟩ := nx_cons h42
    have hn2 := number_len ((number l).2.2.drop 1)
    have hd : ((number l).2.2.drop 1).length + 1 = (number l).2.2.length := by rw [hr]; simp
    split at h
    · cases h
    · next hb =>
      obtain ⟨t1, l1, n1, h1, h2⟩ := bnd_ok h
      obtain ⟨rfl, rfl, rfl⟩ := add_ok h2
      obtain ⟨e1, e2, e3⟩ := fr_elm hg _ n t1 l1 n1 h1
      refine ⟨by simp only [sz]; omega, by simp only [sz]; omega, fun k m hk hm => ?_⟩
      simp only [sz] at hm ⊢
      obtain ⟨a1, a2, a3⟩ := ex_number hk
      obtain ⟨b1, b2, b3⟩ := ex_number (ex_drop a3)
      obtain ⟨k', x1, x2⟩ := e3 _ m b3 (by omega)
      refine ⟨k', x1, ?_⟩
      unfold rpt
      simp only
      rw [ex_nx (by decide) a3, if_pos h42, a1, b1, b2, if_neg hb, x2]
      exact add_yes (by omega)
  · rw [if_neg h42] at h
    split at h
    · next ha =>
      obtain ⟨t1, l1, n1, h1, h2⟩ := bnd_ok h
      obtain ⟨rfl, rfl, rfl⟩ := add_ok h2
      obtain ⟨e1, e2, e3⟩ := fr_elm hg _ n t1 l1 n1 h1
      have hlt := number_lt ha
      refine ⟨by simp only [sz]; omega, by simp only [sz]; omega, fun k m hk hm => ?_⟩
      simp only [sz] at hm ⊢
      obtain ⟨a1, a2, a3⟩ := ex_number hk
      obtain ⟨k', x1, x2⟩ := e3 _ m a3 (by omega)
      refine ⟨k', x1, ?_⟩
      unfold rpt
      simp only
      rw [ex_nx (by decide) a3, if_neg h42, a1, a2, if_pos ha, x2]
      exact add_yes (by omega)
    · next ha =>
      obtain ⟨e1, e2, e3⟩ := fr_elm hg _ n t l' n' h
      refine ⟨e1, by omega, fun k m hk hm => ?_⟩
      obtain ⟨a1, a2, a3⟩ := ex_number hk
      obtain ⟨k', x1, x2⟩ := e3 _ m a3 hm
      refine ⟨k', x1, ?_⟩
      unfold rpt
      simp only
      rw [ex_nx (by decide) a3, if_neg h42, a2, if_neg ha]
      exact x2
theorem fr_catl : ∀ (f : Nat) (a : T) (l : B) (n : Nat) (t : T) (l' : B) (n' : Nat), catl g f a l n = .ok t l' n' → ∃ e, n' = n + e ∧ sz t = sz a + e ∧ e + 2 * l'.length ≤ 2 * l.length ∧ ∀ k m, Ey l k → m + e ≤ 1500 → ∃ k', Ey l' k' ∧ catl g f a k m = .ok t k' (m + e)
  | 0, _, _, _, _, _, _, h => by cases h
  | f + 1, a, l, n, t, l', n', h => by
    unfold catl at h
    by_cases hs : stops l = true
    · rw [if_pos hs] at h
      cases h
      refine ⟨0, rfl, rfl, by omega, fun k m hk hm => ⟨k, hk, ?_⟩⟩
      unfold catl
      rw [ey_stops hk, if_pos hs]
      rfl
    · rw [if_neg hs] at h
      obtain ⟨t1, l1, n1, h1, h2⟩ := bnd_ok h
      obtain ⟨b, l2, n2, h3, h4⟩ := bnd_ok h2
      obtain ⟨rfl, rfl, rfl⟩ := add_ok h3
      obtain ⟨e1, e2, e3⟩ := fr_rpt hg l n t1 l1 n1 h1
      obtain ⟨e, i1, i2, i3, i4⟩ := fr_catl f _ _ _ t l' n' h4
      have hbl := blanks_le l1
      refine ⟨sz t1 + 1 + e, by omega, by simp only [sz] at i2; omega, by omega, fun k m hk hm => ?_⟩
      obtain ⟨k1, x1, x2⟩ := e3 k m hk.ex (by omega)
      obtain ⟨k', y1, y2⟩ := i4 (blanks k1) (m + sz t1 + 1) (ex_blanks x1) (by omega)
      refine ⟨k', y1, ?_⟩
      unfold catl
      rw [ey_stops hk, if_neg hs, x2]
      show (add (.both a t1) k1 (m + sz t1)).bnd _ = _
      rw [add_yes (by omega)]
      show catl g f (.both a t1) (blanks k1) (m + sz t1 + 1) = _
      rw [y2]
      congr 1
      omega
theorem fr_cat (f0 : Nat) (l : B) : Fr Ey (cat f0 g) l := by
  intro n t l' n' h
  unfold cat at h
  obtain ⟨t1, l1, n1, h1, h2⟩ := bnd_ok h
  obtain ⟨e1, e2, e3⟩ := fr_rpt hg _ n t1 l1 n1 h1
  obtain ⟨e, i1, i2, i3, i4⟩ := fr_catl hg f0 t1 _ _ t l' n' h2
  have b1 := blanks_le l
  have b2 := blanks_le l1
  refine ⟨by omega, by omega, fun k m hk hm => ?_⟩
  obtain ⟨k1, x1, x2⟩ := e3 (blanks k) m (ex_blanks hk).ex (by omega)
  obtain ⟨k', y1, y2⟩ := i4 (blanks k1) (m + sz t1) (ex_blanks x1) (by omega)
  refine ⟨k', y1, ?_⟩
  unfold cat
  rw [x2]
  show catl g f0 t1 (blanks k1) (m + sz t1) = _
  rw [y2]
  congr 1
  omega
theorem fr_altl (f0 : Nat) : ∀ (f : Nat) (a : T) (l : B) (n : Nat) (t : T) (l' : B) (n' : Nat), altl f0 g f a l n = .ok t l' n' → ∃ e, n' = n + e ∧ sz t = sz a + e ∧ e + 2 * l'.length ≤ 2 * l.length ∧ ∀ k m, Ey l k → m + e ≤ 1500 → ∃ k', Ey l' k' ∧ altl f0 g f a k m = .ok t k' (m + e)
  | 0, _, _, _, _, _, _, h => by cases h
  | f + 1, a, l, n, t, l', n', h => by
    unfold altl at h
    by_cases hs : nx 47 l = true
    · rw [if_pos hs] at h
      obtain ⟨t1, l1, n1, h1, h2⟩ := bnd_ok h
      obtain ⟨b, l2, n2, h3, h4⟩ := bnd_ok h2
      obtain ⟨rfl, rfl, rfl⟩ := add_ok h3
      obtain ⟨e1, e2, e3⟩ := fr_cat hg f0 _ n t1 l1 n1 h1
      obtain ⟨e, i1, i2, i3, i4⟩ := fr_altl f0 f _ _ _ t l' n' h4
      have hdl := drop_le l 1
      refine ⟨sz t1 + 1 + e, by omega, by simp only [sz] at i2; omega, by omega, fun k m hk hm => ?_⟩
      obtain ⟨k1, x1, x2⟩ := e3 (k.drop 1) m (ex_drop hk.ex) (by omega)
      obtain ⟨k', y1, y2⟩ := i4 k1 (m + sz t1 + 1) x1 (by omega)
      refine ⟨k', y1, ?_⟩
      unfold altl
      rw [ex_nx (by decide) hk.ex, if_pos hs, x2]
      show (add (.eith a t1) k1 (m + sz t1)).bnd _ = _
      rw [add_yes (by omega)]
      show altl f0 g f (.eith a t1) k1 (m + sz t1 + 1) = _
      rw [y2]
      congr 1
      omega
    · rw [if_neg hs] at h
      cases h
      refine ⟨0, rfl, rfl, by omega, fun k m hk hm => ⟨k, hk, ?_⟩⟩
      unfold altl
      rw [ex_nx (by decide) hk.ex, if_neg hs]
      rfl
theorem fr_alt (f0 : Nat) (l : B) : Fr Ey (alt f0 g) l := by
  intro n t l' n' h
  unfold alt at h
  obtain ⟨t1, l1, n1, h1, h2⟩ := bnd_ok h
  obtain ⟨e1, e2, e3⟩ := fr_cat hg f0 _ n t1 l1 n1 h1
  obtain ⟨e, i1, i2, i3, i4⟩ := fr_altl hg f0 f0 t1 _ _ t l' n' h2
  refine ⟨by omega, by omega, fun k m hk hm => ?_⟩
  obtain ⟨k1, x1, x2⟩ := e3 k m hk (by omega)
  obtain ⟨k', y1, y2⟩ := i4 k1 (m + sz t1) x1 (by omega)
  refine ⟨k', y1, ?_⟩
  unfold alt
  rw [x2]
  show altl f0 g f0 t1 k1 (m + sz t1) = _
  rw [y2]
  congr 1
  omega
end
theorem fr_grp (f0 : Nat) : ∀ (d : Nat) (c : UInt8) (l : B), Fr Ex (grp f0 d c) l
  | 0, _, _, n, t, l', n', h => by cases h
  | d + 1, c, l, n, t, l', n', h => by
    unfold grp at h
    obtain ⟨t1, l1, n1, h1, h2⟩ := bnd_ok h
    obtain ⟨e1, e2, e3⟩ := fr_alt (fr_grp f0 d) f0 l n t1 l1 n1 h1
    split at h2
    · next hc =>
      cases h2
      have hdl := drop_le l1 1
      obtain ⟨r, hr⟩ := nx_cons hc
      refine ⟨e1, by omega, fun k m hk hm => ?_⟩
      obtain ⟨k1, x1, x2⟩ := e3 k m hk hm
      refine ⟨k1.drop 1, ex_drop x1.ex, ?_⟩
      have hc1 : nx c k1 = true := by
        rcases x1 with rfl | ⟨_, rfl⟩
        · exact hc
        · rw [hr] at hc ⊢; exact hc
      unfold grp
      rw [x2]
      show (if nx c k1 = true then R.ok t (k1.drop 1) (m + sz t) else R.no 8) = _
      rw [if_pos hc1]
    · cases h2
end Ab
end Go.Proofs.YtckcgiimeaklcaaDoor
