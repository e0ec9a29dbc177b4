/-
  What is read: each number may be; the nodes that are laid are a right tree, and that one. No program in sight.
-/
import Derived.Test.YtebkaajnnjfhjaaDoorRxB
namespace Go.Proofs.YtebkaajnnjfhjaaDoor
set_option linter.unusedVariables false
set_option linter.unusedSimpArgs false
namespace Tr

/-! ### the numbers -/
def okR {α : Type} (P : α → Prop) (r : R α) : Prop := match r with
  | .ok v _ _ => P v
  | .no _ _ => True
theorem okR_bnd {α β : Type} {P : α → Prop} {Q : β → Prop} {r : R α} {f : α → B → Nat → R β} (h : okR P r) (hf : ∀ v l p, P v → okR Q (f v l p)) : okR Q (r.bnd f) := by
  cases r with
  | ok v l p => exact hf v l p h
  | no q x => trivial
theorem okR_any {α : Type} (r : R α) : okR (fun _ => True) r := by cases r <;> trivial
theorem okR_ite {α : Type} {P : α → Prop} {c : Prop} [Decidable c] {a b : R α} (ha : c → okR P a) (hb : ¬ c → okR P b) : okR P (if c then a else b) := by
  by_cases h : c
  · rw [if_pos h]; exact ha h
  · rw [if_neg h]; exact hb h
theorem cls_ok (f : Nat) : ∀ (s : W4) (l : B) (p : Nat), s.Ok → okR W4.Ok (cls f s l p) := by
  induction f with
  | zero => intro s l p h; trivial
  | succ f ih =>
    intro s l p h
    rw [cls]
    refine okR_ite (fun _ => h) fun _ => okR_bnd (okR_any _) fun a l1 p1 _ => okR_ite (fun _ => okR_bnd (okR_any _) fun b l2 p2 _ => okR_ite (fun _ => trivial) fun _ => ih _ _ _ (W4.ok_or h (W4.ok_range _ _))) fun _ => ih _ _ _ (W4.ok_or h (W4.ok_range _ _))
theorem klass_ok (f : Nat) (l : B) (p : Nat) : okR W4.Ok (klass f l p) := by
  unfold klass
  exact okR_ite (fun _ => okR_bnd (cls_ok f _ _ _ W4.ok_zero) fun s l1 p1 _ => W4.ok_not s) fun _ => cls_ok f _ _ _ W4.ok_zero
theorem atm_ok {f : Nat} {g : Nat → B → Nat → R T} (hg : ∀ q l p, okR T.Ok (g q l p)) (c : UInt8) (l : B) (p : Nat) : okR T.Ok (atm f g c l p) := by
  unfold atm
  refine okR_ite (fun _ => hg _ _ _) fun _ => okR_ite (fun _ => W4.ok_not _) fun _ => okR_ite (fun _ => okR_bnd (klass_ok f _ _) fun s l1 p1 h => h) fun _ => okR_ite (fun _ => okR_bnd (okR_any _) fun x l1 p1 _ => W4.ok_ofList _) fun _ => okR_ite (fun _ => trivial) fun _ => W4.ok_ofList _
def mOk (m : Option (Int × Int)) : Prop := match m with
  | none => True
  | some (mn, mx) => (mx = -1 ∧ (mn = 0 ∨ mn = 1)) ∨ (0 ≤ mn ∧ mn ≤ mx ∧ mx ≤ 9)
theorem digit_ok (l : B) (p : Nat) : okR (fun d : Int => 0 ≤ d ∧ d ≤ 9) (digit l p) := by
  rcases l with _ | ⟨c, t⟩
  · trivial
  · unfold digit
    exact okR_ite (fun h => by show (0 : Int) ≤ _ ∧ _; omega) fun _ => trivial
theorem brace_ok {mn mx : Int} (h : 0 ≤ mn ∧ mn ≤ mx ∧ mx ≤ 9) (l : B) (p : Nat) : okR mOk (brace mn mx l p) := by
  unfold brace
  exact okR_ite (fun _ => .inr h) fun _ => trivial
theorem tim_ok (l : B) (p : Nat) : okR mOk (tim l p) := by
  unfold tim
  refine okR_ite (fun _ => .inl ⟨rfl, .inl rfl⟩) fun _ => okR_ite (fun _ => .inl ⟨rfl, .inr rfl⟩) fun _ => okR_ite (fun _ => .inr ⟨by decide, by decide, by decide⟩) fun _ => okR_ite (fun _ => ?_) fun _ => trivial
  refine okR_bnd (digit_ok _ _) fun mn l1 p1 h1 => okR_ite (fun _ => ?_) fun _ => brace_ok ⟨h1.1, Int.le_refl _, h1.2⟩ _ _
  refine okR_bnd (digit_ok _ _) fun mx l2 p2 h2 => okR_ite (fun _ => trivial) fun h => brace_ok ⟨h1.1, by omega, h2.2⟩ _ _
def accOk : Option T → Prop
  | none => True
  | some t => t.Ok
theorem bra_ok {f0 : Nat} {g : Nat → B → Nat → R T} (hg : ∀ q l p, okR T.Ok (g q l p)) (f : Nat) : ∀ (acc : Option T) (l : B) (p : Nat), accOk acc → okR T.Ok (bra f0 g f acc l p) := by
  induction f with
  | zero => intro acc l p h; trivial
  | succ f ih =>
    intro acc l p h
    cases hs : stops l
    case true =>
      rw [bra_stop' hs]
      cases acc with
      | none => trivial
      | some t => exact h
    case false =>
      rcases l with _ | ⟨c, t⟩
      · cases hs
      · rw [bra_go hs]
        refine okR_bnd (atm_ok hg c t p) fun x l1 p1 hx => okR_bnd (tim_ok l1 p1) fun m l2 p2 hm => ih _ _ _ ?_
        have h1 : (tmd x m).Ok := by
          cases m with
          | none => exact hx
          | some m => obtain ⟨a, b⟩ := m; exact ⟨hx, hm⟩
        cases acc with
        | none => exact h1
        | some a => exact ⟨h, h1⟩
theorem pts_ok {f0 : Nat} {g : Nat → B → Nat → R T} (hg : ∀ q l p, okR T.Ok (g q l p)) (f : Nat) : ∀ (acc : T) (l : B) (p : Nat), acc.Ok → okR T.Ok (pts f0 g f acc l p) := by
  induction f with
  | zero => intro acc l p h; trivial
  | succ f ih =>
    intro acc l p h
    rw [pts]
    exact okR_ite (fun _ => okR_bnd (bra_ok hg f0 none _ _ trivial) fun x l1 p1 hx => ih _ _ _ ⟨h, hx⟩) fun _ => h
theorem pat_ok {f0 : Nat} {g : Nat → B → Nat → R T} (hg : ∀ q l p, okR T.Ok (g q l p)) (l : B) (p : Nat) : okR T.Ok (pat f0 g l p) := by
  unfold pat
  exact okR_bnd (bra_ok hg f0 none _ _ trivial) fun x l1 p1 hx => pts_ok hg f0 _ _ _ hx
theorem grp_ok (f0 d : Nat) : ∀ q l p, okR T.Ok (grp f0 d q l p) := by
  induction d with
  | zero => intro q l p; rw [grp]; trivial
  | succ d ih =>
    intro q l p
    rw [grp]
    exact okR_bnd (pat_ok ih l p) fun x l1 p1 hx => okR_ite (fun _ => hx) fun _ => trivial
theorem cons_ok (f0 d f : Nat) : ∀ (acc : List (Bool × T)) (l : B) (p : Nat), acc.length < 20 → (∀ x ∈ acc, x.2.Ok) → okR (fun r : List (Bool × T) => (∀ x ∈ r, x.2.Ok) ∧ 1 ≤ r.length ∧ r.length ≤ 20) (cons f0 d f acc l p) := by
  induction f with
  | zero => intro acc l p _ h; trivial
  | succ f ih =>
    intro acc l p hl h
    rw [cons]
    refine okR_bnd (pat_ok (grp_ok f0 d) _ _) fun t l1 p1 ht => ?_
    have h2 : ∀ b, ∀ x ∈ acc ++ [(b, t)], x.2.Ok := by
      intro b x hx
      rcases List.mem_append.1 hx with hx | hx
      · exact h x hx
      · rw [List.mem_singleton.1 hx]; exact ht
    refine okR_ite (fun _ => ⟨h2 _, by simp, by simp; omega⟩) fun _ => okR_ite (fun _ => okR_ite (fun _ => trivial) fun h20 => ih _ _ _ (by simp; omega) (h2 _)) fun _ => trivial

/-! ### the nodes -/
theorem bare_all {n : Nd} (h : may n = true) : (n.k ≠ 3 → n.k ≠ 4 → n.k ≠ 5 → n.a = 0) ∧ (n.k ≠ 3 → n.k ≠ 4 → n.b = 0) := by
  unfold may bareB at h
  simp only [Bool.and_eq_true, Bool.or_eq_true, beq_iff_eq, decide_eq_true_eq] at h
  obtain ⟨⟨_, ⟨⟨_, h1⟩, h2⟩, _⟩, _⟩ := h
  exact ⟨fun a b c => by rcases h1 with ((h | h) | h) | h <;> first | exact h | exact absurd h (by assumption), fun a b => by rcases h2 with (h | h) | h <;> first | exact h | exact absurd h (by assumption)⟩
theorem root_post (n : Nat) (t : T) : rootI n t = ((n + sz t - 1 : Nat) : Int) := by have := sz_pos t; unfold rootI; omega
theorem post_last (n : Nat) (t : T) : ∃ init x, post n t = init ++ [x] := by
  cases t with
  | emp => exact ⟨[], _, rfl⟩
  | set s => exact ⟨[], _, rfl⟩
  | seq a b => exact ⟨_, _, rfl⟩
  | alt a b => exact ⟨_, _, rfl⟩
  | tms a x y => exact ⟨_, _, rfl⟩
theorem post_may (t : T) (ht : t.Ok) : ∀ n, ∀ x ∈ post n t, may x = true ∧ x.s.Ok := by
  induction t with
  | emp => intro n x hx; rw [show post n .emp = [⟨1, W4.zero, 0, 0, 0, 0⟩] from rfl, List.mem_singleton] at hx; subst hx; exact ⟨by simp [may, bareB], W4.ok_zero⟩
  | set s => intro n x hx; rw [show post n (.set s) = [⟨2, s, 0, 0, 0, 0⟩] from rfl, List.mem_singleton] at hx; subst hx; exact ⟨by simp [may, bareB], ht⟩
  | seq a b iha ihb =>
    intro n x hx
    rcases List.mem_append.1 hx with hx | hx
    · rcases List.mem_append.1 hx with hx | hx
      · exact iha ht.1 _ x hx
      · exact ihb ht.2 _ x hx
    · rw [List.mem_singleton] at hx; subst hx; exact ⟨by simp [may, bareB], W4.ok_zero⟩
  | alt a b iha ihb =>
    intro n x hx
    rcases List.mem_append.1 hx with hx | hx
    · rcases List.mem_append.1 hx with hx | hx
      · exact iha ht.1 _ x hx
      · exact ihb ht.2 _ x hx
    · rw [List.mem_singleton] at hx; subst hx; exact ⟨by simp [may, bareB], W4.ok_zero⟩
  | tms a mn mx iha =>
    intro n x hx
    rcases List.mem_append.1 hx with hx | hx
    · exact iha ht.1 _ x hx
    · rw [List.mem_singleton] at hx; subst hx
      refine ⟨?_, W4.ok_zero⟩
      have h := ht.2
      by_cases h1 : mx = -1
      · subst h1
        have : mn = 0 ∨ mn = 1 := by omega
        simp [may, bareB, this]
      · have : 0 ≤ mn ∧ mn ≤ mx ∧ mx ≤ 9 := by omega
        simp [may, bareB, h1, this]
/-- Each node's children stand ahead of it, and in the same tree. -/
theorem post_dn (t : T) : ∀ n (i : Nat) (x : Nd), (post n t)[i]? = some x → ∀ c ∈ below x, (n : Int) ≤ c ∧ c < ((n + i : Nat) : Int) := by
  induction t with
  | emp => intro n i x hx; rcases i with _ | i <;> simp [post] at hx; subst hx; simp [below]
  | set s => intro n i x hx; rcases i with _ | i <;> simp [post] at hx; subst hx; simp [below]
  | seq a b iha ihb =>
    intro n i x hx c hc
    have la := post_len a n
    have lb := post_len b (n + sz a)
    have pa := sz_pos a
    have pb := sz_pos b
    rw [post, List.append_assoc, List.getElem?_append] at hx
    split at hx
    · exact iha n i x hx c hc
    · rw [List.getElem?_append] at hx
      split at hx
      · have := ihb (n + sz a) _ x hx c hc
        omega
      · have : i - (post n a).length - (post (n + sz a) b).length = 0 := by
          rcases hq : i - (post n a).length - (post (n + sz a) b).length with _ | q
          · rfl
          · rw [hq] at hx; simp at hx
        rw [this] at hx
        simp at hx
        subst hx
        rw [root_post, root_post] at hc
        simp [below] at hc
        omega
  | alt a b iha ihb =>
    intro n i x hx c hc
    have la := post_len a n
    have lb := post_len b (n + sz a)
    have pa := sz_pos a
    have pb := sz_pos b
    rw [post, List.append_assoc, List.getElem?_append] at hx
    split at hx
    · exact iha n i x hx c hc
    · rw [List.getElem?_append] at hx
      split at hx
      · have := ihb (n + sz a) _ x hx c hc
        omega
      · have : i - (post n a).length - (post (n + sz a) b).length = 0 := by
          rcases hq : i - (post n a).length - (post (n + sz a) b).length with _ | q
          · rfl
          · rw [hq] at hx; simp at hx
        rw [this] at hx
        simp at hx
        subst hx
        rw [root_post, root_post] at hc
        simp [below] at hc
        omega
  | tms a mn mx iha =>
    intro n i x hx c hc
    have la := post_len a n
    have pa := sz_pos a
    rw [post, List.getElem?_append] at hx
    split at hx
    · exact iha n i x hx c hc
    · have : i - (post n a).length = 0 := by
        rcases hq : i - (post n a).length with _ | q
        · rfl
        · rw [hq] at hx; simp at hx
      rw [this] at hx
      simp at hx
      subst hx
      rw [root_post] at hc
      simp [below] at hc
      omega
theorem ite_cases (p : Prop) [Decidable p] : (p ∧ (if p then (1 : Nat) else 0) = 1) ∨ (¬ p ∧ (if p then (1 : Nat) else 0) = 0) := by
  by_cases h : p
  · exact .inl ⟨h, if_pos h⟩
  · exact .inr ⟨h, if_neg h⟩
theorem count_one (k : Nat) (c : Int) : ([c] : List Int).count (k : Int) = if c = k then 1 else 0 := by
  rw [List.count_singleton]; simp
theorem count_two (k : Nat) (c d : Int) : ([c, d] : List Int).count (k : Int) = (if c = k then 1 else 0) + (if d = k then 1 else 0) := by
  rw [List.count_cons, List.count_singleton]; simp; omega
theorem post_count (t : T) : ∀ n k : Nat, ((post n t).flatMap below).count (k : Int) = if n ≤ k ∧ k + 1 < n + sz t then 1 else 0 := by
  induction t with
  | emp => intro n k; rw [if_neg (by simp only [sz]; omega)]; simp [post, below]
  | set s => intro n k; rw [if_neg (by simp only [sz]; omega)]; simp [post, below]
  | seq a b iha ihb =>
    intro n k
    have pa := sz_pos a
    have pb := sz_pos b
    have e : below ⟨3, W4.zero, rootI n a, rootI (n + sz a) b, 0, 0⟩ = [rootI n a, rootI (n + sz a) b] := rfl
    have es : sz (.seq a b) = sz a + sz b + 1 := rfl
    have h5 := ite_cases (n ≤ k ∧ k + 1 < n + sz (.seq a b))
    rw [post, List.flatMap_append, List.flatMap_append, List.count_append, List.count_append, iha, ihb, List.flatMap_cons, List.flatMap_nil, List.append_nil, e, count_two, root_post, root_post]
    have h1 := ite_cases (n ≤ k ∧ k + 1 < n + sz a)
    have h2 := ite_cases (n + sz a ≤ k ∧ k + 1 < n + sz a + sz b)
    have h3 := ite_cases (((n + sz a - 1 : Nat) : Int) = (k : Int))
    have h4 := ite_cases (((n + sz a + sz b - 1 : Nat) : Int) = (k : Int))
    omega
  | alt a b iha ihb =>
    intro n k
    have pa := sz_pos a
    have pb := sz_pos b
    have e : below ⟨4, W4.zero, rootI n a, rootI (n + sz a) b, 0, 0⟩ = [rootI n a, rootI (n + sz a) b] := rfl
    have es : sz (.alt a b) = sz a + sz b + 1 := rfl
    have h5 := ite_cases (n ≤ k ∧ k + 1 < n + sz (.alt a b))
    rw [post, List.flatMap_append, List.flatMap_append, List.count_append, List.count_append, iha, ihb, List.flatMap_cons, List.flatMap_nil, List.append_nil, e, count_two, root_post, root_post]
    have h1 := ite_cases (n ≤ k ∧ k + 1 < n + sz a)
    have h2 := ite_cases (n + sz a ≤ k ∧ k + 1 < n + sz a + sz b)
    have h3 := ite_cases (((n + sz a - 1 : Nat) : Int) = (k : Int))
    have h4 := ite_cases (((n + sz a + sz b - 1 : Nat) : Int) = (k : Int))
    omega
  | tms a mn mx iha =>
    intro n k
    have pa := sz_pos a
    have e : below ⟨5, W4.zero, rootI n a, 0, mn, mx⟩ = [rootI n a] := rfl
    have es : sz (.tms a mn mx) = sz a + 1 := rfl
    have h5 := ite_cases (n ≤ k ∧ k + 1 < n + sz (.tms a mn mx))
    rw [post, List.flatMap_append, List.count_append, iha, List.flatMap_cons, List.flatMap_nil, List.append_nil, e, count_one, root_post]
    have h1 := ite_cases (n ≤ k ∧ k + 1 < n + sz a)
    have h3 := ite_cases (((n + sz a - 1 : Nat) : Int) = (k : Int))
    omega
/-- A tree that stands in a row of nodes. -/
theorem tr_post {ns : List Nd} (hd : Dn ns) (t : T) : ∀ n, (∀ i, i < sz t → ns[n + i]? = (post n t)[i]?) → tr ns (n + sz t - 1) = t := by
  induction t with
  | emp =>
    intro n h
    have h0 := h 0 (by simp [sz])
    exact tr_emp (n := ⟨1, W4.zero, 0, 0, 0, 0⟩) h0 (by decide) (by decide) (by decide) (by decide)
  | set s =>
    intro n h
    have h0 := h 0 (by simp [sz])
    exact tr_set (n := ⟨2, s, 0, 0, 0, 0⟩) h0 rfl
  | seq a b iha ihb =>
    intro n h
    have la := post_len a n
    have lb := post_len b (n + sz a)
    have pa := sz_pos a
    have pb := sz_pos b
    have h1 : tr ns (n + sz a - 1) = a := iha n fun i hi => by
      rw [h i (by simp only [sz]; omega), post, List.append_assoc, List.getElem?_append_left (by omega)]
    have h2 : tr ns (n + sz a + sz b - 1) = b := ihb (n + sz a) fun i hi => by
      have := h (sz a + i) (by simp only [sz]; omega)
      rw [show n + sz a + i = n + (sz a + i) by omega, this, post, List.append_assoc, List.getElem?_append_right (by omega), List.getElem?_append_left (by omega), show sz a + i - (post n a).length = i by omega]
    have h3 := h (sz a + sz b) (by simp only [sz]; omega)
    rw [post, List.append_assoc, List.getElem?_append_right (by omega), List.getElem?_append_right (by omega), show sz a + sz b - (post n a).length - (post (n + sz a) b).length = 0 by omega] at h3
    have := tr_seq hd h3 rfl
    rw [show n + sz (.seq a b) - 1 = n + (sz a + sz b) by simp only [sz]; omega, this, root_post, root_post]
    simp only [Int.toNat_natCast]
    rw [h1, h2]
  | alt a b iha ihb =>
    intro n h
    have la := post_len a n
    have lb := post_len b (n + sz a)
    have pa := sz_pos a
    have pb := sz_pos b
    have h1 : tr ns (n + sz a - 1) = a := iha n fun i hi => by
      rw [h i (by simp only [sz]; omega), post, List.append_assoc, List.getElem?_append_left (by omega)]
    have h2 : tr ns (n + sz a + sz b - 1) = b := ihb (n + sz a) fun i hi => by
      have := h (sz a + i) (by simp only [sz]; omega)
      rw [show n + sz a + i = n + (sz a + i) by omega, this, post, List.append_assoc, List.getElem?_append_right (by omega), List.getElem?_append_left (by omega), show sz a + i - (post n a).length = i by omega]
    have h3 := h (sz a + sz b) (by simp only [sz]; omega)
    rw [post, List.append_assoc, List.getElem?_append_right (by omega), List.getElem?_append_right (by omega), show sz a + sz b - (post n a).length - (post (n + sz a) b).length = 0 by omega] at h3
    have := tr_alt hd h3 rfl
    rw [show n + sz (.alt a b) - 1 = n + (sz a + sz b) by simp only [sz]; omega, this, root_post, root_post]
    simp only [Int.toNat_natCast]
    rw [h1, h2]
  | tms a mn mx iha =>
    intro n h
    have la := post_len a n
    have pa := sz_pos a
    have h1 : tr ns (n + sz a - 1) = a := iha n fun i hi => by
      rw [h i (by simp only [sz]; omega), post, List.getElem?_append_left (by omega)]
    have h3 := h (sz a) (by simp only [sz]; omega)
    rw [post, List.getElem?_append_right (by omega), show sz a - (post n a).length = 0 by omega] at h3
    have := tr_tms hd h3 rfl
    rw [show n + sz (.tms a mn mx) - 1 = n + sz a by simp only [sz]; omega, this, root_post]
    simp only [Int.toNat_natCast]
    rw [h1]

/-! ### the parts -/
theorem ndsL_may (L : List (Bool × T)) (h : ∀ x ∈ L, x.2.Ok) : ∀ n, ∀ x ∈ ndsL n L, may x = true ∧ x.s.Ok := by
  induction L with
  | nil => intro n x hx; cases hx
  | cons y L ih =>
    intro n x hx
    rcases List.mem_append.1 hx with hx | hx
    · exact post_may y.2 (h y (by simp)) _ x hx
    · exact ih (fun z hz => h z (List.mem_cons_of_mem _ hz)) _ x hx
theorem ndsL_dn (L : List (Bool × T)) : ∀ n (i : Nat) (x : Nd), (ndsL n L)[i]? = some x → ∀ c ∈ below x, (n : Int) ≤ c ∧ c < ((n + i : Nat) : Int) := by
  induction L with
  | nil => intro n i x hx; simp [ndsL] at hx
  | cons y L ih =>
    intro n i x hx c hc
    have la := post_len y.2 n
    rw [ndsL, List.getElem?_append] at hx
    split at hx
    · exact post_dn y.2 n i x hx c hc
    · have := ih (n + sz y.2) _ x hx c hc
      omega
theorem ndsL_Dn (L : List (Bool × T)) : Dn (ndsL 0 L) := fun i x hx c hc => by
  have := ndsL_dn L 0 i x hx c hc
  omega
theorem ptsL_rt (L : List (Bool × T)) : ∀ n, ∀ p ∈ ptsL n L, (n : Int) ≤ p.root ∧ p.root < ((n + szL L : Nat) : Int) := by
  induction L with
  | nil => intro n p hp; cases hp
  | cons y L ih =>
    intro n p hp
    have := sz_pos y.2
    rcases List.mem_cons.1 hp with rfl | hp
    · show (n : Int) ≤ rootI n y.2 ∧ rootI n y.2 < _
      rw [root_post]; simp only [szL]; omega
    · have := ih _ p hp
      simp only [szL]; omega
theorem ndsL_count (L : List (Bool × T)) : ∀ n k : Nat, ((ndsL n L).flatMap below ++ (ptsL n L).map Pt.root).count (k : Int) = if n ≤ k ∧ k < n + szL L then 1 else 0 := by
  induction L with
  | nil => intro n k; rw [if_neg (by simp only [szL]; omega)]; rfl
  | cons y L ih =>
    intro n k
    have py := sz_pos y.2
    have h := ih (n + sz y.2) k
    have es : szL (y :: L) = sz y.2 + szL L := rfl
    have h4 := ite_cases (n ≤ k ∧ k < n + szL (y :: L))
    have h2 := ite_cases (n + sz y.2 ≤ k ∧ k < n + sz y.2 + szL L)
    rw [List.count_append] at h
    rw [ndsL, ptsL, List.flatMap_append, List.map_cons, List.count_append, List.count_append, List.count_cons, post_count]
    show _ + _ + (_ + (if (rootI n y.2 == (k : Int)) = true then 1 else 0)) = _
    rw [root_post]
    have h1 := ite_cases (n ≤ k ∧ k + 1 < n + sz y.2)
    have h3 := ite_cases ((((n + sz y.2 - 1 : Nat) : Int) == (k : Int)) = true)
    have h6 : ((((n + sz y.2 - 1 : Nat) : Int) == (k : Int)) = true) ↔ n + sz y.2 - 1 = k := by simp only [beq_iff_eq]; omega
    have h7 : (n + sz y.2 - 1 = k ∧ (if (((n + sz y.2 - 1 : Nat) : Int) == (k : Int)) = true then (1 : Nat) else 0) = 1) ∨ (¬ n + sz y.2 - 1 = k ∧ (if (((n + sz y.2 - 1 : Nat) : Int) == (k : Int)) = true then (1 : Nat) else 0) = 0) := by
      rcases h3 with ⟨a, b⟩ | ⟨a, b⟩
      · exact .inl ⟨h6.1 a, b⟩
      · exact .inr ⟨fun e => a (h6.2 e), b⟩
    clear h3 h6
    omega
theorem read_good {L : List (Bool × T)} (h : ∀ x ∈ L, x.2.Ok) (h1 : 1 ≤ L.length) (h2 : L.length ≤ 20) (h6 : szL L ≤ 600) : Good (ndsL 0 L) (ptsL 0 L) where
  p1 := by rw [ptsL_len]; exact h1
  p2 := by rw [ptsL_len]; exact h2
  n2 := by rw [ndsL_len]; exact h6
  dn := ndsL_Dn L
  rt := fun p hp => by have := ptsL_rt L 0 p hp; rw [ndsL_len]; omega
  us := fun k hk => by rw [ndsL_len] at hk; rw [ndsL_count, if_pos (by omega)]
  my := fun n hn => (ndsL_may L h 0 n hn).1
theorem trees_at {ns : List Nd} (hd : Dn ns) (L : List (Bool × T)) : ∀ n, (∀ i, i < szL L → ns[n + i]? = (ndsL n L)[i]?) → trees ns (ptsL n L) = L := by
  induction L with
  | nil => intro n h; rfl
  | cons y L ih =>
    intro n h
    have py := sz_pos y.2
    have ly := post_len y.2 n
    have h1 : tr ns (n + sz y.2 - 1) = y.2 := tr_post hd y.2 n fun i hi => by
      rw [h i (by simp only [szL]; omega), ndsL, List.getElem?_append_left (by omega)]
    have h2 := ih (n + sz y.2) fun i hi => by
      have := h (sz y.2 + i) (by simp only [szL]; omega)
      rw [show n + sz y.2 + i = n + (sz y.2 + i) by omega, this, ndsL, List.getElem?_append_right (by omega), show sz y.2 + i - (post n y.2).length = i by omega]
    show (y.1, tr ns (rootI n y.2).toNat) :: trees ns (ptsL (n + sz y.2) L) = y :: L
    rw [h2, root_post, Int.toNat_natCast, h1]
theorem trees_read (L : List (Bool × T)) : trees (ndsL 0 L) (ptsL 0 L) = L := trees_at (ndsL_Dn L) L 0 fun i _ => by rw [Nat.zero_add]
end Tr
end Go.Proofs.YtebkaajnnjfhjaaDoor
