/-
  What is wrong at a byte hangs on the bytes up to it alone (but for a backslash's, a range's and a brace's). No program in sight.
-/
import Derived.Test.YtebkaajnnjfhjaaFin
namespace Go.Proofs.Ytebkaajnnjfhjaa
set_option linter.unusedVariables false
set_option linter.unusedSimpArgs false
namespace Tr

/-- Two texts that are one up to a byte. -/
structure Ag (l m : B) (q : Nat) : Prop where
  eq : ∀ i, i ≤ q → l[i]? = m[i]?
  l92 : l[q]? ≠ some 92
  ldg : ∀ c, l[q]? = some c → ¬ (48 ≤ c.toNat ∧ c.toNat ≤ 57)
  l45 : 0 < q → l[q - 1]? ≠ some 45
  lt : q < l.length
theorem Ag.self {l m : B} {q : Nat} (h : Ag l m q) : Ag l l q := ⟨fun _ _ => rfl, h.l92, h.ldg, h.l45, h.lt⟩
/-- Beside a reading of one text, from a place on, the reading of the other one. -/
def Loc (l m : B) (q : Nat) {α : Type} (a b : R α) (p : Nat) : Prop := match a with
  | .ok v r p1 => p ≤ p1 ∧ r = l.drop p1 ∧ (p1 ≤ q → b = .ok v (m.drop p1) p1)
  | .no q' x => q' = q → p ≤ q ∧ b = .no q x
section
variable {l m : B} {q : Nat} {α β : Type}
theorem Loc.any {a b b' : R α} {p : Nat} (hp : q < p) (h : Loc l m q a b p) : Loc l m q a b' p := by
  cases a with
  | ok v r p1 => exact ⟨h.1, h.2.1, fun h1 => absurd (Nat.le_trans h.1 h1) (by omega)⟩
  | no q' x => exact fun e => absurd (h e).1 (by omega)
theorem Loc.swap {m' : B} {a b b' : R α} {p : Nat} (hp : q < p) (h : Loc l m q a b p) : Loc l m' q a b' p := by
  cases a with
  | ok v r p1 => exact ⟨h.1, h.2.1, fun h1 => absurd (Nat.le_trans h.1 h1) (by omega)⟩
  | no q' x => exact fun e => absurd (h e).1 (by omega)
theorem Loc.wk {a b : R α} {p p' : Nat} (h : Loc l m q a b p') (hp : p ≤ p') : Loc l m q a b p := by
  cases a with
  | ok v r p1 => exact ⟨Nat.le_trans hp h.1, h.2.1, h.2.2⟩
  | no q' x => exact fun e => ⟨Nat.le_trans hp (h e).1, (h e).2⟩
theorem Loc.bnd {a b : R α} {f g : α → B → Nat → R β} {p : Nat} (h : Loc l m q a b p) (hf : ∀ v p1, p ≤ p1 → Loc l m q (f v (l.drop p1) p1) (g v (m.drop p1) p1) p1) : Loc l m q (a.bnd f) (b.bnd g) p := by
  cases a with
  | ok v r p1 =>
    obtain ⟨h1, h2, h3⟩ := h
    subst h2
    have := hf v p1 h1
    show Loc l m q (f v (l.drop p1) p1) (b.bnd g) p
    by_cases hq : p1 ≤ q
    · rw [h3 hq]
      exact this.wk h1
    · exact (this.any (by omega)).wk h1
  | no q' x =>
    intro e
    obtain ⟨h1, h2⟩ := h e
    exact ⟨h1, by rw [h2]; rfl⟩
theorem Loc.no {p : Nat} (x : Int) : Loc l m q (.no p x : R α) (.no p x) p := fun e => ⟨Nat.le_of_eq e, by rw [e]⟩
theorem Loc.none_ {p s : Nat} {x : Int} {b : R α} (h : s ≠ q) : Loc l m q (.no s x) b p := fun e => absurd e h
theorem Loc.ok {p p1 : Nat} (v : α) (h : p ≤ p1) : Loc l m q (.ok v (l.drop p1) p1) (.ok v (m.drop p1) p1) p := ⟨h, rfl, fun _ => rfl⟩
/-- The two texts' heads at a place. -/
theorem heads (h : Ag l m q) (p : Nat) (hp : p ≤ q ∨ m = l) : (l.drop p = [] ∧ m.drop p = []) ∨ ∃ c, l.drop p = c :: l.drop (p + 1) ∧ m.drop p = c :: m.drop (p + 1) ∧ l[p]? = some c := by
  by_cases hl : p < l.length
  · refine .inr ⟨l[p], List.drop_eq_getElem_cons hl, ?_, List.getElem?_eq_getElem hl⟩
    rcases hp with hp | rfl
    · have := h.eq p hp
      rw [List.getElem?_eq_getElem hl] at this
      obtain ⟨h1, h2⟩ := List.getElem?_eq_some_iff.1 this.symm
      rw [List.drop_eq_getElem_cons h1, h2]
    · exact List.drop_eq_getElem_cons hl
  · rcases hp with hp | rfl
    · exact absurd (Nat.lt_of_le_of_lt hp h.lt) hl
    · exact .inl ⟨List.drop_eq_nil_of_le (by omega), List.drop_eq_nil_of_le (by omega)⟩
theorem heads_nx (h : Ag l m q) (p : Nat) (hp : p ≤ q ∨ m = l) (x : UInt8) : nx x (m.drop p) = nx x (l.drop p) := by
  rcases heads h p hp with ⟨h1, h2⟩ | ⟨c, h1, h2, _⟩ <;> rw [h1, h2]
  rfl
theorem Loc.test {p : Nat} (h : Ag l m q) (hp : p ≤ q ∨ m = l) (x : UInt8) {a a' b b' : R α} (ha : nx x (l.drop p) = true → Loc l m q a a' p) (hb : nx x (l.drop p) = false → Loc l m q b b' p) :
    Loc l m q (if nx x (l.drop p) then a else b) (if nx x (m.drop p) then a' else b') p := by
  rw [heads_nx h p hp x]
  cases hn : nx x (l.drop p)
  · exact hb hn
  · exact ha hn
theorem drop_1 (l : B) (p : Nat) : (l.drop p).drop 1 = l.drop (p + 1) := by rw [List.drop_drop]
theorem nx_get {x : UInt8} {l : B} {p : Nat} (h : nx x (l.drop p) = true) : l[p]? = some x := by
  obtain ⟨t, e⟩ := nx_cons h
  have := congrArg (·[0]?) e
  simpa using this
/-- It is enough to look at places up to the byte, or at one text twice. -/
theorem Loc.split {f : B → R α} {p : Nat} (h : Ag l m q) (k : ∀ m, Ag l m q → (p ≤ q ∨ m = l) → Loc l m q (f l) (f m) p) : Loc l m q (f l) (f m) p := by
  by_cases hp : p ≤ q
  · exact k m h (.inl hp)
  · exact (k l h.self (.inr rfl)).swap (by omega)
end
theorem hx2_drop {l m : B} {q p : Nat} (h : Ag l m q) (hp : p + 3 ≤ q) : hx2 (m.drop p) = hx2 (l.drop p) := by
  rcases heads h p (.inl (by omega)) with ⟨h1, h2⟩ | ⟨a, a1, a2, _⟩
  · rw [h1, h2]
  · rcases heads h (p + 1) (.inl (by omega)) with ⟨h1, h2⟩ | ⟨b, b1, b2, _⟩
    · rw [a1, a2, h1, h2]
    · rcases heads h (p + 2) (.inl (by omega)) with ⟨h1, h2⟩ | ⟨c, c1, c2, _⟩
      · rw [a1, a2, b1, b2, h1, h2]
      · rw [a1, a2, b1, b2, c1, c2]; rfl
theorem esc_loc {l m : B} {q : Nat} (h : Ag l m q) (of : B) (p : Nat) (place : Nat) (hpl : l[place]? = some 92) : Loc l m q (esc place of (l.drop p) p) (esc place of (m.drop p) p) p := by
  have hne : place ≠ q := fun e => h.l92 (by rw [← e]; exact hpl)
  refine Loc.split (f := fun m => esc place of (m.drop p) p) h fun m h hp => ?_
  rcases heads h p hp with ⟨h1, h2⟩ | ⟨c, h1, h2, _⟩
  · simp only [h1]
    exact Loc.none_ hne
  · simp only [h1, h2]
    unfold esc
    by_cases hc : of.contains c = true
    · simp only [hc, if_true]
      exact Loc.ok c (by omega)
    · simp only [hc]
      cases hh : hx2 (c :: l.drop (p + 1)) with
      | none => exact Loc.none_ hne
      | some x =>
        have e1 : (l.drop (p + 1)).drop 2 = l.drop (p + 3) := by rw [List.drop_drop]
        have e2 : (m.drop (p + 1)).drop 2 = m.drop (p + 3) := by rw [List.drop_drop]
        simp only [e1, e2]
        refine ⟨by omega, rfl, fun hq => ?_⟩
        have := hx2_drop h hq
        rw [h1, h2, hh] at this
        rw [this]
        rfl
theorem item_loc {l m : B} {q : Nat} (h : Ag l m q) (p : Nat) : Loc l m q (item (l.drop p) p) (item (m.drop p) p) p := by
  refine Loc.split (f := fun m => item (m.drop p) p) h fun m h hp => ?_
  rcases heads h p hp with ⟨h1, h2⟩ | ⟨c, h1, h2, h3⟩
  · simp only [h1, h2]
    exact Loc.no 8
  · simp only [h1, h2]
    unfold item
    by_cases hc : c = 92
    · simp only [hc, if_true]
      exact (esc_loc h inside (p + 1) p (by rw [h3, hc])).wk (by omega)
    · simp only [hc, if_false]
      by_cases hi : inside.contains c = true
      · simp only [hi, if_true]; exact Loc.no 8
      · simp only [hi]; exact Loc.ok c (by omega)
theorem cls_loc (l : B) (q : Nat) (f : Nat) : ∀ (m : B) (s : W4) (p : Nat), Ag l m q → Loc l m q (cls f s (l.drop p) p) (cls f s (m.drop p) p) p := by
  induction f with
  | zero => intro m s p h; exact Loc.no 99
  | succ f ih =>
    intro m s p h
    refine Loc.split (f := fun m => cls (f + 1) s (m.drop p) p) h fun m h hp => ?_
    rw [cls, cls]
    refine Loc.test h hp 93 (fun _ => by rw [drop_1, drop_1]; exact Loc.ok s (by omega)) fun _ => ?_
    refine (item_loc h p).bnd fun a p1 hp1 => ?_
    refine Loc.split (f := fun m => if nx 45 (m.drop p1) then (item ((m.drop p1).drop 1) (p1 + 1)).bnd fun b l2 p2 => if b.toNat < a.toNat then .no (p1 + 1) 8 else cls f (s.or (W4.range a.toNat b.toNat)) l2 p2 else cls f (s.or (W4.range a.toNat a.toNat)) (m.drop p1) p1) h fun m h hp => ?_
    refine Loc.test h hp 45 (fun h45 => ?_) fun _ => ih m _ _ h
    rw [drop_1, drop_1]
    refine Loc.wk (p' := p1 + 1) ((item_loc h (p1 + 1)).bnd fun b p2 hp2 => ?_) (by omega)
    by_cases hb : b.toNat < a.toNat
    · rw [if_pos hb, if_pos hb]
      exact Loc.none_ fun e => h.l45 (by omega) (by rw [← e, Nat.add_sub_cancel]; exact nx_get h45)
    · rw [if_neg hb, if_neg hb]
      exact ih m _ _ h
theorem klass_loc {l m : B} {q : Nat} (h : Ag l m q) (f p : Nat) : Loc l m q (klass f (l.drop p) p) (klass f (m.drop p) p) p := by
  refine Loc.split (f := fun m => klass f (m.drop p) p) h fun m h hp => ?_
  unfold klass
  refine Loc.test h hp 94 (fun _ => ?_) fun _ => cls_loc l q f m _ p h
  rw [drop_1, drop_1]
  exact Loc.wk (p' := p + 1) ((cls_loc l q f m _ (p + 1) h).bnd fun s p1 hp1 => Loc.ok _ (Nat.le_refl _)) (by omega)
def LocG (l : B) (q : Nat) (g : Nat → B → Nat → R T) : Prop := ∀ m p, Ag l m q → Loc l m q (g p (l.drop (p + 1)) (p + 1)) (g p (m.drop (p + 1)) (p + 1)) p
theorem atm_loc {l m : B} {q : Nat} (h : Ag l m q) {g : Nat → B → Nat → R T} (hg : LocG l q g) (f : Nat) (c : UInt8) (p : Nat) (hc : l[p]? = some c) : Loc l m q (atm f g c (l.drop (p + 1)) p) (atm f g c (m.drop (p + 1)) p) p := by
  unfold atm
  by_cases h40 : c = 40
  · rw [if_pos h40, if_pos h40]; exact hg m p h
  rw [if_neg h40, if_neg h40]
  by_cases h46 : c = 46
  · rw [if_pos h46, if_pos h46]; exact Loc.ok _ (by omega)
  rw [if_neg h46, if_neg h46]
  by_cases h91 : c = 91
  · rw [if_pos h91, if_pos h91]
    exact Loc.wk (p' := p + 1) ((klass_loc h f (p + 1)).bnd fun s p1 hp1 => Loc.ok _ (Nat.le_refl _)) (by omega)
  rw [if_neg h91, if_neg h91]
  by_cases h92 : c = 92
  · rw [if_pos h92, if_pos h92]
    exact Loc.wk (p' := p + 1) ((esc_loc h marks (p + 1) p (by rw [hc, h92])).bnd fun s p1 hp1 => Loc.ok _ (Nat.le_refl _)) (by omega)
  rw [if_neg h92, if_neg h92]
  by_cases hm : marks.contains c = true
  · rw [if_pos hm, if_pos hm]; exact Loc.no 8
  · rw [if_neg hm, if_neg hm]; exact Loc.ok _ (by omega)
theorem digit_loc {l m : B} {q : Nat} (h : Ag l m q) (p : Nat) : Loc l m q (digit (l.drop p) p) (digit (m.drop p) p) p := by
  refine Loc.split (f := fun m => digit (m.drop p) p) h fun m h hp => ?_
  rcases heads h p hp with ⟨h1, h2⟩ | ⟨c, h1, h2, h3⟩
  · simp only [h1, h2]
    exact Loc.no 8
  · simp only [h1, h2]
    by_cases hc : 48 ≤ c.toNat ∧ c.toNat ≤ 57
    · rw [show digit (c :: l.drop (p + 1)) p = .ok (c.toNat - 48 : Int) (l.drop (p + 1)) (p + 1) from if_pos hc, show digit (c :: m.drop (p + 1)) p = .ok (c.toNat - 48 : Int) (m.drop (p + 1)) (p + 1) from if_pos hc]; exact Loc.ok _ (by omega)
    · rw [show digit (c :: l.drop (p + 1)) p = .no p 8 from if_neg hc, show digit (c :: m.drop (p + 1)) p = .no p 8 from if_neg hc]; exact Loc.no 8
theorem digit_get {l : B} {p p1 : Nat} {v : Int} {r : B} (h : digit (l.drop p) p = .ok v r p1) : ∃ c, l[p]? = some c ∧ 48 ≤ c.toNat ∧ c.toNat ≤ 57 := by
  cases e : l.drop p with
  | nil => rw [e] at h; cases h
  | cons c t =>
    rw [e] at h
    have h0 : l[p]? = some c := by
      have := congrArg (·[0]?) e
      simpa using this
    refine ⟨c, h0, ?_⟩
    by_cases hc : 48 ≤ c.toNat ∧ c.toNat ≤ 57
    · exact hc
    · rw [show digit (c :: t) p = .no p 8 from if_neg hc] at h
      cases h
theorem brace_loc {l m : B} {q : Nat} (h : Ag l m q) (mn mx : Int) (p : Nat) : Loc l m q (brace mn mx (l.drop p) p) (brace mn mx (m.drop p) p) p := by
  refine Loc.split (f := fun m => brace mn mx (m.drop p) p) h fun m h hp => ?_
  unfold brace
  exact Loc.test h hp 125 (fun _ => by rw [drop_1, drop_1]; exact Loc.ok _ (by omega)) fun _ => Loc.no 8
theorem tim_loc {l m : B} {q : Nat} (h : Ag l m q) (p : Nat) : Loc l m q (tim (l.drop p) p) (tim (m.drop p) p) p := by
  refine Loc.split (f := fun m => tim (m.drop p) p) h fun m h hp => ?_
  unfold tim
  refine Loc.test h hp 42 (fun _ => by rw [drop_1, drop_1]; exact Loc.ok _ (by omega)) fun _ => Loc.test h hp 43 (fun _ => by rw [drop_1, drop_1]; exact Loc.ok _ (by omega)) fun _ => Loc.test h hp 63 (fun _ => by rw [drop_1, drop_1]; exact Loc.ok _ (by omega)) fun _ => Loc.test h hp 123 (fun _ => ?_) fun _ => Loc.ok _ (Nat.le_refl _)
  rw [drop_1, drop_1]
  refine Loc.wk (p' := p + 1) ((digit_loc h (p + 1)).bnd fun mn p1 hp1 => ?_) (by omega)
  refine Loc.split (f := fun m => if nx 44 (m.drop p1) then (digit ((m.drop p1).drop 1) (p1 + 1)).bnd fun mx l2 p2 => if mx < mn then .no (p1 + 1) 8 else brace mn mx l2 p2 else brace mn mn (m.drop p1) p1) h fun m h hp => ?_
  refine Loc.test h hp 44 (fun _ => ?_) fun _ => brace_loc h _ _ _
  rw [drop_1, drop_1]
  refine Loc.wk (p' := p1 + 1) ?_ (by omega)
  have hd := digit_loc h (p1 + 1)
  cases hdg : digit (l.drop (p1 + 1)) (p1 + 1) with
  | no s x =>
    rw [hdg] at hd
    intro e
    obtain ⟨h1, h2⟩ := hd e
    exact ⟨h1, by rw [h2]; rfl⟩
  | ok mx l2 p2 =>
    obtain ⟨c, hc1, hc2⟩ := digit_get hdg
    have hne : p1 + 1 ≠ q := fun e => h.ldg c (by rw [← e]; exact hc1) hc2
    rw [← hdg]
    refine hd.bnd fun mx p2 hp2 => ?_
    by_cases hx : mx < mn
    · rw [if_pos hx, if_pos hx]; exact Loc.none_ hne
    · rw [if_neg hx, if_neg hx]; exact brace_loc h _ _ _
theorem bra_loc {f0 : Nat} {l : B} {q : Nat} {g : Nat → B → Nat → R T} (hg : LocG l q g) (f : Nat) : ∀ (m : B) (acc : Option T) (p : Nat), Ag l m q → Loc l m q (bra f0 g f acc (l.drop p) p) (bra f0 g f acc (m.drop p) p) p := by
  induction f with
  | zero => intro m acc p h; exact Loc.no 99
  | succ f ih =>
    intro m acc p h
    refine Loc.split (f := fun m => bra f0 g (f + 1) acc (m.drop p) p) h fun m h hp => ?_
    show Loc l m q (bra f0 g (f + 1) acc (l.drop p) p) (bra f0 g (f + 1) acc (m.drop p) p) p
    rcases heads h p hp with ⟨h1, h2⟩ | ⟨c, h1, h2, h3⟩
    · have e1 : bra f0 g (f + 1) acc (l.drop p) p = .ok (acc.getD .emp) (l.drop p) p := bra_stop' (by rw [h1]; rfl)
      have e2 : bra f0 g (f + 1) acc (m.drop p) p = .ok (acc.getD .emp) (m.drop p) p := bra_stop' (by rw [h2]; rfl)
      rw [e1, e2]
      exact Loc.ok _ (Nat.le_refl _)
    · cases hs : stops (l.drop p)
      · have hs' : stops (m.drop p) = false := by rw [h2]; rw [h1] at hs; exact hs
        rw [h1] at hs
        rw [h2] at hs'
        rw [h1, h2, bra_go hs, bra_go hs']
        exact (atm_loc h hg f0 c p h3).bnd fun x p1 hp1 => (tim_loc h p1).bnd fun mm p2 hp2 => ih m _ p2 h
      · have hs' : stops (m.drop p) = true := by rw [h2]; rw [h1] at hs; exact hs
        rw [bra_stop' hs, bra_stop' hs']
        exact Loc.ok _ (Nat.le_refl _)
theorem pts_loc {f0 : Nat} {l : B} {q : Nat} {g : Nat → B → Nat → R T} (hg : LocG l q g) (f : Nat) : ∀ (m : B) (acc : T) (p : Nat), Ag l m q → Loc l m q (pts f0 g f acc (l.drop p) p) (pts f0 g f acc (m.drop p) p) p := by
  induction f with
  | zero => intro m acc p h; exact Loc.no 99
  | succ f ih =>
    intro m acc p h
    refine Loc.split (f := fun m => pts f0 g (f + 1) acc (m.drop p) p) h fun m h hp => ?_
    show Loc l m q (pts f0 g (f + 1) acc (l.drop p) p) (pts f0 g (f + 1) acc (m.drop p) p) p
    rw [pts, pts]
    refine Loc.test h hp 124 (fun _ => ?_) fun _ => Loc.ok _ (Nat.le_refl _)
    rw [drop_1, drop_1]
    exact Loc.wk (p' := p + 1) ((bra_loc hg f0 m none (p + 1) h).bnd fun x p1 hp1 => ih m _ p1 h) (by omega)
theorem pat_loc {f0 : Nat} {l m : B} {q : Nat} {g : Nat → B → Nat → R T} (hg : LocG l q g) (h : Ag l m q) (p : Nat) : Loc l m q (pat f0 g (l.drop p) p) (pat f0 g (m.drop p) p) p := by
  unfold pat
  exact (bra_loc hg f0 m none p h).bnd fun x p1 hp1 => pts_loc hg f0 m x p1 h
theorem grp_loc (f0 : Nat) (l : B) (q : Nat) (d : Nat) : LocG l q (grp f0 d) := by
  induction d with
  | zero => intro m p h; rw [grp, grp]; exact Loc.no 3
  | succ d ih =>
    intro m p h
    rw [grp, grp]
    refine Loc.wk (p' := p + 1) ((pat_loc ih h (p + 1)).bnd fun x p1 hp1 => ?_) (by omega)
    refine Loc.split (f := fun m => if nx 41 (m.drop p1) then (.ok x ((m.drop p1).drop 1) (p1 + 1) : R T) else .no p1 8) h fun m h hp => ?_
    show Loc l m q (if nx 41 (l.drop p1) then _ else _) (if nx 41 (m.drop p1) then _ else _) p1
    exact Loc.test h hp 41 (fun _ => by rw [drop_1, drop_1]; exact Loc.ok _ (by omega)) fun _ => Loc.no 8
/-- The bangs as a reading. -/
def bangR (b : Bool × B × Nat) : R Bool := .ok b.1 b.2.1 b.2.2
theorem bangs_loc (l : B) (q : Nat) (n : Nat) : ∀ (m : B) (b : Bool) (p : Nat), l.length - p ≤ n → Ag l m q → Loc l m q (bangR (bangs b (l.drop p) p)) (bangR (bangs b (m.drop p) p)) p := by
  induction n with
  | zero =>
    intro m b p hn h
    refine Loc.split (f := fun m => bangR (bangs b (m.drop p) p)) h fun m h hp => ?_
    show Loc l m q (bangR (bangs b (l.drop p) p)) (bangR (bangs b (m.drop p) p)) p
    rcases heads h p hp with ⟨h1, h2⟩ | ⟨c, h1, h2, h3⟩
    · rw [h1, h2]
      exact ⟨Nat.le_refl _, h1.symm, fun _ => by show (R.ok b [] p : R Bool) = R.ok b (m.drop p) p; rw [h2]⟩
    · have := (List.getElem?_eq_some_iff.1 h3).1; omega
  | succ n ih =>
    intro m b p hn h
    refine Loc.split (f := fun m => bangR (bangs b (m.drop p) p)) h fun m h hp => ?_
    show Loc l m q (bangR (bangs b (l.drop p) p)) (bangR (bangs b (m.drop p) p)) p
    rcases heads h p hp with ⟨h1, h2⟩ | ⟨c, h1, h2, h3⟩
    · rw [h1, h2]
      exact ⟨Nat.le_refl _, h1.symm, fun _ => by show (R.ok b [] p : R Bool) = R.ok b (m.drop p) p; rw [h2]⟩
    · by_cases hc : c = 33
      · subst hc
        have e1 : bangs b (l.drop p) p = bangs (!b) (l.drop (p + 1)) (p + 1) := by rw [h1]; rfl
        have e2 : bangs b (m.drop p) p = bangs (!b) (m.drop (p + 1)) (p + 1) := by rw [h2]; rfl
        rw [e1, e2]
        exact (ih m (!b) (p + 1) (by omega) h).wk (by omega)
      · have n1 : nx 33 (l.drop p) = false := by rw [h1]; unfold nx; simpa using hc
        have n2 : nx 33 (m.drop p) = false := by rw [h2]; unfold nx; simpa using hc
        rw [bangs_stop n1, bangs_stop n2]
        exact Loc.ok b (Nat.le_refl _)
theorem cons_bang (f0 d f : Nat) (acc : List (Bool × T)) (l : B) (p : Nat) : cons f0 d (f + 1) acc l p = (bangR (bangs false l p)).bnd fun b l0 p0 => (pat f0 (grp f0 d) l0 p0).bnd fun t l1 p1 =>
      if l1 = [] then .ok (acc ++ [(b, t)]) l1 p1 else if nx 38 l1 then (if acc.length + 1 = 20 then .no p1 3 else cons f0 d f (acc ++ [(b, t)]) (l1.drop 1) (p1 + 1)) else .no p1 8 := rfl
theorem cons_loc (f0 d : Nat) (l : B) (q : Nat) (f : Nat) : ∀ (m : B) (acc : List (Bool × T)) (p : Nat), Ag l m q → Loc l m q (cons f0 d f acc (l.drop p) p) (cons f0 d f acc (m.drop p) p) p := by
  induction f with
  | zero => intro m acc p h; exact Loc.no 99
  | succ f ih =>
    intro m acc p h
    rw [cons_bang, cons_bang]
    refine (bangs_loc l q (l.length - p) m false p (Nat.le_refl _) h).bnd fun b p0 hp0 => (pat_loc (grp_loc f0 l q d) h p0).bnd fun t p1 hp1 => ?_
    refine Loc.split (f := fun m => if m.drop p1 = [] then (.ok (acc ++ [(b, t)]) (m.drop p1) p1 : R (List (Bool × T))) else if nx 38 (m.drop p1) then (if acc.length + 1 = 20 then .no p1 3 else cons f0 d f (acc ++ [(b, t)]) ((m.drop p1).drop 1) (p1 + 1)) else .no p1 8) h fun m h hp => ?_
    show Loc l m q (if l.drop p1 = [] then _ else _) (if m.drop p1 = [] then _ else _) p1
    have ht : Loc l m q (if nx 38 (l.drop p1) then (if acc.length + 1 = 20 then .no p1 3 else cons f0 d f (acc ++ [(b, t)]) ((l.drop p1).drop 1) (p1 + 1)) else .no p1 8) (if nx 38 (m.drop p1) then (if acc.length + 1 = 20 then .no p1 3 else cons f0 d f (acc ++ [(b, t)]) ((m.drop p1).drop 1) (p1 + 1)) else .no p1 8) p1 := by
      refine Loc.test h hp 38 (fun _ => ?_) fun _ => Loc.no 8
      by_cases h20 : acc.length + 1 = 20
      · rw [if_pos h20, if_pos h20]; exact Loc.no 3
      · rw [if_neg h20, if_neg h20, drop_1, drop_1]; exact (ih m _ (p1 + 1) h).wk (by omega)
    rcases heads h p1 hp with ⟨h1, h2⟩ | ⟨c, h1, h2, h3⟩
    · rw [if_pos h1, if_pos h2]; exact Loc.ok _ (Nat.le_refl _)
    · rw [if_neg (c := l.drop p1 = []) (by rw [h1]; simp), if_neg (c := m.drop p1 = []) (by rw [h2]; simp)]; exact ht
/-- What is wrong at a byte is wrong at it of each text that begins so. -/
theorem rparse_loc {l b : B} {q : Nat} {x : Int} (hl : l.length ≤ 200) (hp : rparse 600 l = .no q x) (hq : q < l.length) (h92 : l[q]? ≠ some 92) (hdg : ∀ c, l[q]? = some c → ¬ (48 ≤ c.toNat ∧ c.toNat ≤ 57)) (h45 : 0 < q → l[q - 1]? ≠ some 45) (hb : q + 1 + b.length ≤ 200) : rparse 600 (l.take (q + 1) ++ b) = .no q x := by
  have hA : Ag l (l.take (q + 1) ++ b) q := ⟨fun i hi => by rw [List.getElem?_append_left (by rw [List.length_take]; omega), List.getElem?_take_of_lt (by omega)], h92, hdg, h45, hq⟩
  have hlen : (l.take (q + 1) ++ b).length ≤ 200 := by rw [List.length_append, List.length_take]; omega
  unfold rparse at hp ⊢
  rw [if_neg (by omega)] at hp ⊢
  have hc := cons_loc 600 16 l q 600 (l.take (q + 1) ++ b) [] 0 hA
  rw [List.drop_zero, List.drop_zero] at hc
  cases hcl : cons 600 16 600 [] l 0 with
  | ok L r p =>
    rw [hcl] at hp
    simp only [R.bnd] at hp
    by_cases h6 : 63 < places (ndsL 0 L) (ptsL 0 L)
    · rw [if_pos h6] at hp
      injection hp with h1 h2
      omega
    · rw [if_neg h6] at hp
      cases hp
  | no q' x' =>
    rw [hcl] at hp hc
    injection hp with h1 h2
    subst h1 h2
    rw [(hc rfl).2]
    rfl
end Tr
end Go.Proofs.Ytebkaajnnjfhjaa
