/-
  Which trees are right: counted over all nodes, and from the roots down: one answer. No program in sight.
-/
import Derived.Test.YtebkaajnnjfhjaaDoorTP
namespace Go.Proofs.YtebkaajnnjfhjaaDoor
set_option linter.unusedVariables false
set_option linter.unusedSimpArgs false
namespace Tr

structure Nd where
  k : Nat
  s : W4
  a : Int
  b : Int
  mn : Int
  mx : Int
  deriving DecidableEq
structure Pt where
  root : Int
  no : Bool
  deriving DecidableEq
def below (n : Nd) : List Int := if n.k = 3 ∨ n.k = 4 then [n.a, n.b] else if n.k = 5 then [n.a] else []
theorem below_cases (n : Nd) : ((n.k = 3 ∨ n.k = 4) ∧ below n = [n.a, n.b]) ∨ (n.k = 5 ∧ below n = [n.a]) ∨ (n.k ≠ 3 ∧ n.k ≠ 4 ∧ n.k ≠ 5 ∧ below n = []) := by
  unfold below
  by_cases h : n.k = 3 ∨ n.k = 4
  · exact .inl ⟨h, if_pos h⟩
  · rw [if_neg h]
    by_cases h5 : n.k = 5
    · exact .inr (.inl ⟨h5, if_pos h5⟩)
    · exact .inr (.inr ⟨by omega, by omega, h5, if_neg h5⟩)
def bareB (n : Nd) : Bool :=
  (n.k == 2 || n.s == W4.zero) && ((n.k == 3 || n.k == 4 || n.k == 5) || n.a == 0) && ((n.k == 3 || n.k == 4) || n.b == 0) && (n.k == 5 || (n.mn == 0 && n.mx == 0))
def may (n : Nd) : Bool := decide (1 ≤ n.k ∧ n.k ≤ 5) && bareB n && (if n.mx = -1 then decide (n.mn = 0 ∨ n.mn = 1) else decide (0 ≤ n.mn ∧ n.mn ≤ n.mx ∧ n.mx ≤ 9))
structure Good (ns : List Nd) (ps : List Pt) : Prop where
  p1 : 1 ≤ ps.length
  p2 : ps.length ≤ 20
  n2 : ns.length ≤ 600
  dn : ∀ (i : Nat) n, ns[i]? = some n → ∀ c ∈ below n, 0 ≤ c ∧ c < (i : Int)
  rt : ∀ p ∈ ps, 0 ≤ p.root ∧ p.root < (ns.length : Int)
  us : ∀ k, k < ns.length → (ns.flatMap below ++ ps.map Pt.root).count (k : Int) = 1
  my : ∀ n ∈ ns, may n = true

def ch (ns : List Nd) (i : Nat) : List Int := match ns[i]? with
  | some n => below n
  | none => []
theorem ch_range (ns : List Nd) : (List.range ns.length).flatMap (ch ns) = ns.flatMap below := by
  have : ns.flatMap below = (List.range ns.length).flatMap (ch ns) := by
    rw [List.flatMap_def, List.flatMap_def]
    congr 1
    refine List.ext_getElem (by simp) fun i h1 h2 => ?_
    simp only [List.length_map] at h1
    simp [ch, List.getElem?_eq_getElem h1]
  exact this.symm
/-- Whom one comes by, from a number down. -/
def vis (ns : List Nd) : Nat → Nat → List Nat
  | 0, _ => []
  | f + 1, k => k :: (ch ns k).flatMap fun c => vis ns f c.toNat
def Dn (ns : List Nd) : Prop := ∀ (i : Nat) n, ns[i]? = some n → ∀ c ∈ below n, 0 ≤ c ∧ c < (i : Int)
/-- As Dn, of those alone that are come by. -/
def DnOn (ns : List Nd) (V : List Nat) : Prop := ∀ i ∈ V, ∀ c ∈ ch ns i, 0 ≤ c ∧ c < (i : Int)
theorem Dn.on {ns : List Nd} (h : Dn ns) (V : List Nat) : DnOn ns V := by
  intro i _ c hc
  unfold ch at hc
  cases e : ns[i]? with
  | none => rw [e] at hc; simp at hc
  | some n => rw [e] at hc; exact h i n e c hc
theorem ch_cases (ns : List Nd) (k : Nat) : ch ns k = [] ∨ (∃ a, ch ns k = [a]) ∨ ∃ a b, ch ns k = [a, b] := by
  unfold ch
  cases ns[k]? with
  | none => exact .inl rfl
  | some n => rcases below_cases n with ⟨_, e⟩ | ⟨_, e⟩ | ⟨_, _, _, e⟩ <;> simp only [e] <;> simp
theorem vis_perm (ns : List Nd) (f : Nat) : ∀ k, k < f → DnOn ns (vis ns f k) → ((vis ns f k).map fun (n : Nat) => (n : Int)).Perm ((k : Int) :: (vis ns f k).flatMap (ch ns)) := by
  induction f with
  | zero => intro k h; omega
  | succ f ih =>
    intro k hk hd
    rcases ch_cases ns k with e | ⟨a, e⟩ | ⟨a, b, e⟩
    · simp [vis, e]
    · have ha := hd k (by simp [vis]) a (by simp [e])
      obtain ⟨m, rfl⟩ := Int.eq_ofNat_of_zero_le ha.1
      have h1 := ih m (by omega) fun i hi c hc => hd i (by simp only [vis, e]; simp [hi]) c hc
      simp only [vis, e, List.flatMap_cons, List.flatMap_nil, List.append_nil, List.map_cons, Int.toNat_natCast]
      refine List.Perm.cons _ ?_
      simpa using h1
    · have ha := hd k (by simp [vis]) a (by simp [e])
      have hb := hd k (by simp [vis]) b (by simp [e])
      obtain ⟨m, rfl⟩ := Int.eq_ofNat_of_zero_le ha.1
      obtain ⟨n, rfl⟩ := Int.eq_ofNat_of_zero_le hb.1
      have h1 := ih m (by omega) fun i hi c hc => hd i (by simp only [vis, e]; simp [hi]) c hc
      have h2 := ih n (by omega) fun i hi c hc => hd i (by simp only [vis, e]; simp [hi]) c hc
      simp only [vis, e, List.flatMap_cons, List.flatMap_nil, List.append_nil, List.map_cons, Int.toNat_natCast, List.map_append, List.flatMap_append]
      refine List.Perm.cons _ ?_
      refine (List.Perm.append h1 h2).trans ?_
      simp only [List.cons_append, List.nil_append]
      refine List.Perm.cons _ ?_
      exact List.perm_middle
theorem vis_lt (ns : List Nd) (f : Nat) : ∀ k, k < f → DnOn ns (vis ns f k) → ∀ i ∈ vis ns f k, i ≤ k := by
  induction f with
  | zero => intro k h; omega
  | succ f ih =>
    intro k hk hd i hi
    simp only [vis, List.mem_cons, List.mem_flatMap] at hi
    rcases hi with rfl | ⟨c, hc, hi⟩
    · exact Nat.le_refl _
    · have h := hd k (by simp [vis]) c hc
      have := ih c.toNat (by omega) (fun j hj c' hc' => hd j (by simp only [vis, List.mem_cons, List.mem_flatMap]; exact .inr ⟨c, hc, hj⟩) c' hc') i hi
      omega
/-- All that is come by from some roots. -/
def visAll (ns : List Nd) (f : Nat) (rs : List Int) : List Nat := rs.flatMap fun r => vis ns f r.toNat
theorem visAll_perm (ns : List Nd) (f : Nat) (rs : List Int) (hr : ∀ r ∈ rs, 0 ≤ r ∧ r.toNat < f) (hd : DnOn ns (visAll ns f rs)) :
    ((visAll ns f rs).map fun (n : Nat) => (n : Int)).Perm (rs ++ (visAll ns f rs).flatMap (ch ns)) := by
  induction rs with
  | nil => simp [visAll]
  | cons r rs ih =>
    have h0 := hr r (by simp)
    obtain ⟨k, rfl⟩ := Int.eq_ofNat_of_zero_le h0.1
    have h1 := vis_perm ns f k (by simpa using h0.2) fun i hi c hc => hd i (by simp only [visAll, List.flatMap_cons, List.mem_append]; exact .inl (by simpa using hi)) c hc
    have h2 := ih (fun r h => hr r (by simp [h])) fun i hi c hc => hd i (by simp only [visAll, List.flatMap_cons, List.mem_append]; exact .inr (by simpa [visAll] using hi)) c hc
    simp only [visAll, List.flatMap_cons, List.map_append, List.flatMap_append, Int.toNat_natCast] at h2 ⊢
    refine (List.Perm.append h1 h2).trans ?_
    simp only [List.cons_append]
    refine List.Perm.cons _ ?_
    rw [← List.append_assoc, ← List.append_assoc]
    exact List.Perm.append_right _ List.perm_append_comm
theorem cnt_range {k n : Nat} (h : k < n) : (List.range n).count k = 1 := by rw [List.nodup_range.count, if_pos (by simpa using h)]
theorem perm_range {V : List Nat} {n : Nat} (h1 : ∀ k, k < n → V.count k = 1) (h2 : ∀ i ∈ V, i < n) : V.Perm (List.range n) := by
  rw [List.perm_iff_count]
  intro k
  by_cases hk : k < n
  · rw [h1 k hk, cnt_range hk]
  · rw [List.count_eq_zero_of_not_mem fun h => hk (h2 k h), List.count_eq_zero_of_not_mem (by simpa using hk)]
theorem count_cast (V : List Nat) (k : Nat) : (V.map fun (n : Nat) => (n : Int)).count (k : Int) = V.count k := by
  induction V with
  | nil => rfl
  | cons a t ih =>
    rw [List.map_cons, List.count_cons, List.count_cons, ih]
    congr 1
    by_cases h : a = k
    · subst h; simp
    · rw [if_neg (by simp; omega), if_neg (by simpa using h)]
/-- From the roots down each is come by just once: then each is used just once. -/
theorem used_of_vis {ns : List Nd} {rs : List Int} (f : Nat) (hr : ∀ r ∈ rs, 0 ≤ r ∧ r < (ns.length : Int)) (hf : ns.length ≤ f) (hd : DnOn ns (visAll ns f rs)) (h1 : ∀ k, k < ns.length → (visAll ns f rs).count k = 1) :
    Dn ns ∧ ∀ k, k < ns.length → (ns.flatMap below ++ rs).count (k : Int) = 1 := by
  have hlt : ∀ i ∈ visAll ns f rs, i < ns.length := by
    intro i hi
    simp only [visAll, List.mem_flatMap] at hi
    obtain ⟨r, hrm, hi⟩ := hi
    have h := hr r hrm
    have := vis_lt ns f r.toNat (by omega) (fun j hj c hc => hd j (by simp only [visAll, List.mem_flatMap]; exact ⟨r, hrm, hj⟩) c hc) i hi
    omega
  have hp := perm_range h1 hlt
  refine ⟨?_, ?_⟩
  · intro i n hn c hc
    have hi : i < ns.length := by
      rcases Nat.lt_or_ge i ns.length with h | h
      · exact h
      · rw [List.getElem?_eq_none h] at hn; cases hn
    refine hd i (hp.symm.subset (by simpa using hi)) c ?_
    unfold ch; rw [hn]; exact hc
  · intro k hk
    have hq := visAll_perm ns f rs (fun r h => ⟨(hr r h).1, by have := hr r h; omega⟩) hd
    have hc := List.perm_iff_count.1 hq (k : Int)
    rw [count_cast, h1 k hk] at hc
    have hm := List.perm_iff_count.1 (List.Perm.flatMap_right (ch ns) hp) (k : Int)
    rw [ch_range] at hm
    rw [List.count_append] at hc ⊢
    omega
theorem count_flatMap_sum (V : List Nat) (g : Nat → List Int) (x : Int) : (V.flatMap g).count x = (V.map fun i => (g i).count x).sum := by
  induction V with
  | nil => rfl
  | cons a t ih => rw [List.flatMap_cons, List.count_append, ih, List.map_cons, List.sum_cons]
theorem sum_filter (V : List Nat) (p : Nat → Bool) (g : Nat → Nat) (h : ∀ i ∈ V, p i = false → g i = 0) : (V.map g).sum = ((V.filter p).map g).sum := by
  induction V with
  | nil => rfl
  | cons a t ih =>
    have := ih fun i hi => h i (by simp [hi])
    rw [List.map_cons, List.sum_cons, List.filter_cons]
    cases hp : p a
    · rw [h a (by simp) hp]; simpa using this
    · simp only [if_true, List.map_cons, List.sum_cons]; omega
/-- Each is used just once: then each is come by just once, from the roots down. -/
theorem vis_of_used {ns : List Nd} {rs : List Int} (f : Nat) (hd : Dn ns) (hr : ∀ r ∈ rs, 0 ≤ r ∧ r < (ns.length : Int)) (hf : ns.length ≤ f) (hu : ∀ k, k < ns.length → (ns.flatMap below ++ rs).count (k : Int) = 1) :
    ∀ k, k < ns.length → (visAll ns f rs).count k = 1 := by
  have hlt : ∀ i ∈ visAll ns f rs, i < ns.length := by
    intro i hi
    simp only [visAll, List.mem_flatMap] at hi
    obtain ⟨r, hrm, hi⟩ := hi
    have h := hr r hrm
    have := vis_lt ns f r.toNat (by omega) (hd.on _) i hi
    omega
  have hq := visAll_perm ns f rs (fun r h => ⟨(hr r h).1, by have := hr r h; omega⟩) (hd.on _)
  have key : ∀ d k, k < ns.length → ns.length - k ≤ d → (visAll ns f rs).count k = 1 := by
    intro d
    induction d with
    | zero => intro k h1 h2; omega
    | succ d ih =>
      intro k hk hkd
      have hc := List.perm_iff_count.1 hq (k : Int)
      rw [count_cast, List.count_append] at hc
      have hu' := hu k hk
      rw [List.count_append, ← ch_range] at hu'
      have z : ∀ i, decide (k < i) = false → (ch ns i).count (k : Int) = 0 := by
        intro i hi
        refine List.count_eq_zero_of_not_mem fun hm => ?_
        have := hd.on [i] i (by simp) _ hm
        have hi' : ¬ k < i := by simpa using hi
        omega
      have e1 : ((visAll ns f rs).flatMap (ch ns)).count (k : Int) = ((List.range ns.length).flatMap (ch ns)).count (k : Int) := by
        rw [count_flatMap_sum, count_flatMap_sum, sum_filter _ (fun i => decide (k < i)) _ (fun i _ => z i), sum_filter (List.range ns.length) (fun i => decide (k < i)) _ (fun i _ => z i)]
        refine List.Perm.sum_nat (List.Perm.map _ ?_)
        rw [List.perm_iff_count]
        intro j
        by_cases hj : k < j ∧ j < ns.length
        · rw [List.count_filter (by simpa using hj.1), List.count_filter (by simpa using hj.1), ih j hj.2 (by omega), cnt_range hj.2]
        · rw [List.count_eq_zero_of_not_mem, List.count_eq_zero_of_not_mem]
          · intro hm; rw [List.mem_filter, List.mem_range] at hm; simp at hm; omega
          · intro hm; rw [List.mem_filter] at hm; have := hlt j hm.1; simp at hm; omega
      omega
  exact fun k hk => key (ns.length - k) k hk (Nat.le_refl _)

/-! ### from the roots down, by a row of counts -/
def bump (k : Nat) (u : List Nat) : List Nat := u.set k (u.getD k 0 + 1)
def dnF (ns : List Nd) : Nat → Int → List Nat → Bool × List Nat
  | 0, _, u => (false, u)
  | f + 1, k, u => if k < 0 ∨ (ns.length : Int) ≤ k then (false, u) else
    if 1 < (bump k.toNat u).getD k.toNat 0 then (false, bump k.toNat u) else
    match ns[k.toNat]? with
    | none => (false, u)
    | some n =>
      if n.k = 3 ∨ n.k = 4 then
        if n.a < k ∧ n.b < k then (if (dnF ns f n.a (bump k.toNat u)).1 then dnF ns f n.b (dnF ns f n.a (bump k.toNat u)).2 else (false, (dnF ns f n.a (bump k.toNat u)).2)) else (false, bump k.toNat u)
      else if n.k = 5 then (if n.a < k then dnF ns f n.a (bump k.toNat u) else (false, bump k.toNat u)) else (true, bump k.toNat u)
theorem bump_len (k : Nat) (u : List Nat) : (bump k u).length = u.length := by simp [bump]
theorem bump_get {k : Nat} {u : List Nat} (h : k < u.length) (j : Nat) : (bump k u).getD j 0 = u.getD j 0 + (if j = k then 1 else 0) := by
  unfold bump
  by_cases hj : j = k
  · subst hj
    simp [List.getD, h]
  · rw [if_neg hj]
    simp only [List.getD]
    rw [List.getElem?_set_ne (by omega)]
    rfl
theorem dnF_len (ns : List Nd) (f : Nat) : ∀ k u, (dnF ns f k u).2.length = u.length := by
  induction f with
  | zero => intro k u; rfl
  | succ f ih =>
    intro k u
    rw [dnF]
    split
    · rfl
    split
    · exact bump_len _ _
    cases ns[k.toNat]? with
    | none => rfl
    | some n =>
      simp only
      split
      · split
        · split
          · rw [ih, ih, bump_len]
          · rw [ih, bump_len]
        · exact bump_len _ _
      · split
        · split
          · rw [ih, bump_len]
          · exact bump_len _ _
        · exact bump_len _ _
theorem cnt_cons (j k : Nat) (l : List Nat) : (k :: l).count j = (if j = k then 1 else 0) + l.count j := by
  rw [List.count_cons]
  by_cases h : j = k
  · subst h; simp; omega
  · rw [if_neg h, if_neg (by simpa using fun e : k = j => h e.symm)]; omega
/-- It says yes: then it has counted those that are come by. -/
theorem dnF_yes (ns : List Nd) (f : Nat) : ∀ (k : Int) (u : List Nat), u.length = ns.length → (dnF ns f k u).1 = true →
    0 ≤ k ∧ k < (ns.length : Int) ∧ DnOn ns (vis ns f k.toNat) ∧ ∀ j, (dnF ns f k u).2.getD j 0 = u.getD j 0 + (vis ns f k.toNat).count j := by
  induction f with
  | zero => intro k u _ h; simp [dnF] at h
  | succ f ih =>
    intro k u hu h
    rw [dnF] at h ⊢
    by_cases h1 : k < 0 ∨ (ns.length : Int) ≤ k
    · rw [if_pos h1] at h; simp at h
    rw [if_neg h1] at h ⊢
    by_cases h2 : 1 < (bump k.toNat u).getD k.toNat 0
    · rw [if_pos h2] at h; simp at h
    rw [if_neg h2] at h ⊢
    have hk : k.toNat < ns.length := by omega
    have hbl : (bump k.toNat u).length = ns.length := by rw [bump_len, hu]
    have hbg := bump_get (k := k.toNat) (u := u) (by omega)
    rw [List.getElem?_eq_getElem hk] at h ⊢
    generalize hn : ns[k.toNat] = n at h ⊢
    have hch : ch ns k.toNat = below n := by unfold ch; rw [List.getElem?_eq_getElem hk, hn]
    simp only at h ⊢
    refine ⟨by omega, by omega, ?_⟩
    rcases below_cases n with ⟨hk34, e⟩ | ⟨hk5, e⟩ | ⟨k3, k4, k5, e⟩
    · rw [if_pos hk34] at h ⊢
      by_cases h3 : n.a < k ∧ n.b < k
      · rw [if_pos h3] at h ⊢
        by_cases h4 : (dnF ns f n.a (bump k.toNat u)).1 = true
        · rw [if_pos h4] at h ⊢
          obtain ⟨a1, a2, a3, a4⟩ := ih n.a _ hbl h4
          obtain ⟨b1, b2, b3, b4⟩ := ih n.b _ ((dnF_len ns f _ _).trans hbl) h
          refine ⟨?_, ?_⟩
          · intro i hi c hc
            simp only [vis, hch, e, List.flatMap_cons, List.flatMap_nil, List.append_nil, List.mem_cons, List.mem_append] at hi
            rcases hi with rfl | hi | hi
            · rw [hch, e] at hc
              simp only [List.mem_cons, List.not_mem_nil, or_false] at hc
              rcases hc with rfl | rfl <;> omega
            · exact a3 i hi c hc
            · exact b3 i hi c hc
          · intro j
            rw [b4, a4, hbg]
            simp only [vis, hch, e, List.flatMap_cons, List.flatMap_nil, List.append_nil]
            rw [cnt_cons, List.count_append]
            omega
        · rw [if_neg h4] at h; simp at h
      · rw [if_neg h3] at h; simp at h
    · rw [if_neg (by omega), if_pos hk5] at h ⊢
      by_cases h3 : n.a < k
      · rw [if_pos h3] at h ⊢
        obtain ⟨a1, a2, a3, a4⟩ := ih n.a _ hbl h
        refine ⟨?_, ?_⟩
        · intro i hi c hc
          simp only [vis, hch, e, List.flatMap_cons, List.flatMap_nil, List.append_nil, List.mem_cons] at hi
          rcases hi with rfl | hi
          · rw [hch, e] at hc
            simp only [List.mem_cons, List.not_mem_nil, or_false] at hc
            omega
          · exact a3 i hi c hc
        · intro j
          rw [a4, hbg]
          simp only [vis, hch, e, List.flatMap_cons, List.flatMap_nil, List.append_nil]
          rw [cnt_cons]
          omega
      · rw [if_neg h3] at h; simp at h
    · rw [if_neg (by omega), if_neg k5] at h ⊢
      refine ⟨?_, ?_⟩
      · intro i hi c hc
        simp only [vis, hch, e, List.flatMap_nil, List.mem_cons, List.not_mem_nil, or_false] at hi
        subst hi
        rw [hch, e] at hc
        simp at hc
      · intro j
        rw [hbg]
        simp only [vis, hch, e, List.flatMap_nil]
        rw [cnt_cons]
        simp
/-- It says yes of a tree each node of which is come by once at most. -/
theorem dnF_ok (ns : List Nd) (hd : Dn ns) (f : Nat) : ∀ (k : Nat) (u : List Nat), u.length = ns.length → k < ns.length → k < f → (∀ j, u.getD j 0 + (vis ns f k).count j ≤ 1) →
    (dnF ns f k u).1 = true := by
  induction f with
  | zero => intro k u _ _ h; omega
  | succ f ih =>
    intro k u hu hk hf h
    rw [dnF, if_neg (by omega)]
    have hbg := bump_get (k := k) (u := u) (by omega)
    have hbl : (bump k u).length = ns.length := by rw [bump_len, hu]
    simp only [Int.toNat_natCast]
    have h0 := h k
    rw [vis, cnt_cons, if_pos rfl] at h0
    rw [if_neg (by rw [hbg, if_pos rfl]; omega)]
    rw [List.getElem?_eq_getElem hk]
    generalize hn : ns[k] = n
    have hdn : ∀ c ∈ below n, 0 ≤ c ∧ c < (k : Int) := hd k n (by rw [List.getElem?_eq_getElem hk, hn])
    have hch : ch ns k = below n := by unfold ch; rw [List.getElem?_eq_getElem hk, hn]
    simp only
    rcases below_cases n with ⟨hk34, e⟩ | ⟨hk5, e⟩ | ⟨k3, k4, k5, e⟩
    · have ha := hdn n.a (by simp [e])
      have hb := hdn n.b (by simp [e])
      obtain ⟨x, hx⟩ := Int.eq_ofNat_of_zero_le ha.1
      obtain ⟨y, hy⟩ := Int.eq_ofNat_of_zero_le hb.1
      rw [if_pos hk34, if_pos ⟨ha.2, hb.2⟩]
      have h1 : ∀ j, (bump k u).getD j 0 + (vis ns f x).count j + (vis ns f y).count j ≤ 1 := by
        intro j
        have := h j
        rw [vis, hch, e, hx, hy, cnt_cons] at this
        simp only [List.flatMap_cons, List.flatMap_nil, List.append_nil, Int.toNat_natCast, List.count_append] at this
        rw [hbg]
        omega
      have hA : (dnF ns f n.a (bump k u)).1 = true := by
        rw [hx]
        exact ih x _ hbl (by omega) (by omega) fun j => by have := h1 j; omega
      obtain ⟨_, _, _, a4⟩ := dnF_yes ns f n.a _ hbl hA
      rw [if_pos hA]
      rw [hy]
      refine ih y _ ((dnF_len ns f _ _).trans hbl) (by omega) (by omega) fun j => ?_
      rw [a4, hx]
      exact h1 j
    · have ha := hdn n.a (by simp [e])
      obtain ⟨x, hx⟩ := Int.eq_ofNat_of_zero_le ha.1
      rw [if_neg (by omega), if_pos hk5, if_pos ha.2, hx]
      refine ih x _ hbl (by omega) (by omega) fun j => ?_
      have := h j
      rw [vis, hch, e, hx, cnt_cons] at this
      simp only [List.flatMap_cons, List.flatMap_nil, List.append_nil, Int.toNat_natCast] at this
      rw [hbg]
      omega
    · rw [if_neg (by omega), if_neg k5]
def dnAll (ns : List Nd) (f : Nat) : List Pt → List Nat → Bool × List Nat
  | [], u => (true, u)
  | p :: ps, u => if (dnF ns f p.root u).1 then dnAll ns f ps (dnF ns f p.root u).2 else (false, (dnF ns f p.root u).2)
theorem dnAll_yes (ns : List Nd) (f : Nat) (ps : List Pt) : ∀ u : List Nat, u.length = ns.length → (dnAll ns f ps u).1 = true →
    (∀ r ∈ ps.map Pt.root, 0 ≤ r ∧ r < (ns.length : Int)) ∧ DnOn ns (visAll ns f (ps.map Pt.root)) ∧ ∀ j, (dnAll ns f ps u).2.getD j 0 = u.getD j 0 + (visAll ns f (ps.map Pt.root)).count j := by
  induction ps with
  | nil => intro u _ _; exact ⟨by simp, by intro i hi; simp [visAll] at hi, by intro j; simp [dnAll, visAll]⟩
  | cons p ps ih =>
    intro u hu h
    rw [dnAll] at h ⊢
    by_cases h1 : (dnF ns f p.root u).1 = true
    · rw [if_pos h1] at h ⊢
      obtain ⟨a1, a2, a3, a4⟩ := dnF_yes ns f _ _ hu h1
      obtain ⟨b1, b2, b3⟩ := ih _ ((dnF_len ns f _ _).trans hu) h
      refine ⟨?_, ?_, ?_⟩
      · intro r hr
        simp only [List.map_cons, List.mem_cons] at hr
        rcases hr with rfl | hr
        · exact ⟨a1, a2⟩
        · exact b1 r hr
      · intro i hi
        simp only [visAll, List.map_cons, List.flatMap_cons, List.mem_append] at hi
        rcases hi with hi | hi
        · exact a3 i hi
        · exact b2 i hi
      · intro j
        rw [b3, a4]
        simp only [visAll, List.map_cons, List.flatMap_cons, List.count_append]
        omega
    · rw [if_neg h1] at h; simp at h
theorem dnAll_ok (ns : List Nd) (hd : Dn ns) (f : Nat) (hf : ns.length ≤ f) (ps : List Pt) : ∀ u : List Nat, u.length = ns.length → (∀ r ∈ ps.map Pt.root, 0 ≤ r ∧ r < (ns.length : Int)) →
    (∀ j, u.getD j 0 + (visAll ns f (ps.map Pt.root)).count j ≤ 1) → (dnAll ns f ps u).1 = true := by
  induction ps with
  | nil => intro u _ _ _; rfl
  | cons p ps ih =>
    intro u hu hr h
    have h0 := hr p.root (by simp)
    obtain ⟨k, hk⟩ := Int.eq_ofNat_of_zero_le h0.1
    have hj : ∀ j, u.getD j 0 + (vis ns f k).count j + (visAll ns f (ps.map Pt.root)).count j ≤ 1 := by
      intro j
      have := h j
      simp only [visAll, List.map_cons, List.flatMap_cons, List.count_append, hk, Int.toNat_natCast] at this ⊢
      omega
    have hA : (dnF ns f p.root u).1 = true := by
      rw [hk]
      exact dnF_ok ns hd f k u hu (by omega) (by omega) fun j => by have := hj j; omega
    obtain ⟨_, _, _, a4⟩ := dnF_yes ns f _ _ hu hA
    rw [dnAll, if_pos hA]
    refine ih _ ((dnF_len ns f _ _).trans hu) (fun r h => hr r (by simp [h])) fun j => ?_
    rw [a4, hk]
    exact hj j

/-! ### the two answers -/
def plainOf (n : Nd) : Nd := if n.k = 2 then ⟨n.k, n.s, 0, 0, 0, 0⟩ else if n.k = 3 ∨ n.k = 4 then ⟨n.k, W4.zero, n.a, n.b, 0, 0⟩ else if n.k = 5 then ⟨n.k, W4.zero, n.a, 0, n.mn, n.mx⟩ else ⟨n.k, W4.zero, 0, 0, 0, 0⟩
def fits (n : Nd) : Bool := if n.k < 1 ∨ 5 < n.k then false else if n.k = 5 ∧ (¬ (n.mx = -1 ∧ (n.mn = 0 ∨ n.mn = 1)) ∧ (n.mn < 0 ∨ n.mx < n.mn ∨ 9 < n.mx)) then false else decide (n = plainOf n)
theorem fits_may (n : Nd) : fits n = may n := by
  obtain ⟨k, s, a, b, mn, mx⟩ := n
  have e1 : decide (mn = 0) = (mn == 0) := rfl
  by_cases hk : 1 ≤ k ∧ k ≤ 5
  · have h5 : k = 1 ∨ k = 2 ∨ k = 3 ∨ k = 4 ∨ k = 5 := by omega
    by_cases hl : k = 5 ∧ (¬ (mx = -1 ∧ (mn = 0 ∨ mn = 1)) ∧ (mn < 0 ∨ mx < mn ∨ 9 < mx))
    · unfold fits
      simp only
      rw [if_neg (by omega), if_pos hl]
      unfold may
      simp only
      symm
      rw [Bool.and_eq_false_iff]
      right
      by_cases hx : mx = -1
      · rw [if_pos hx, decide_eq_false_iff_not]; omega
      · rw [if_neg hx, decide_eq_false_iff_not]; omega
    · unfold fits
      simp only
      rw [if_neg (by omega), if_neg hl, Bool.eq_iff_iff, decide_eq_true_iff]
      unfold may bareB plainOf
      simp only [Bool.and_eq_true, decide_eq_true_iff]
      rcases h5 with rfl | rfl | rfl | rfl | rfl
      · simp
        constructor
        · rintro ⟨rfl, rfl, rfl, rfl, rfl⟩; simp
        · rintro ⟨⟨⟨⟨h1, h2⟩, h3⟩, h4, h5⟩, _⟩; exact ⟨h1, h2, h3, h4, h5⟩
      · simp
        constructor
        · rintro ⟨rfl, rfl, rfl, rfl⟩; simp
        · rintro ⟨⟨⟨h2, h3⟩, h4, h5⟩, _⟩; exact ⟨h2, h3, h4, h5⟩
      · simp
        rintro _ rfl rfl; simp
      · simp
        rintro _ rfl rfl; simp
      · simp at hl
        simp
        rintro _ rfl
        by_cases hx : mx = -1
        · rw [if_pos hx]; omega
        · rw [if_neg hx]; omega
  · unfold fits may
    simp only
    rw [if_pos (by omega), decide_eq_false hk]
    rfl

def zeros (n : Nat) : List Nat := List.replicate n 0
theorem zeros_get (n j : Nat) : (zeros n).getD j 0 = 0 := by
  unfold zeros
  simp only [List.getD, List.getElem?_replicate]
  split <;> rfl
/-- The document's answer. -/
def refRight (ns : List Nd) (ps : List Pt) (f : Nat) : Bool :=
  if ps.length = 0 ∨ 20 < ps.length ∨ 600 < ns.length then false else
  if (dnAll ns f ps (zeros ns.length)).1 then (List.range ns.length).all fun i => ((dnAll ns f ps (zeros ns.length)).2.getD i 0 == 1) && (match ns[i]? with | some n => fits n | none => true) else false
theorem refRight_iff (ns : List Nd) (ps : List Pt) (f : Nat) (hf : ns.length ≤ f) : refRight ns ps f = true ↔ Good ns ps := by
  unfold refRight
  have hz : (zeros ns.length).length = ns.length := by simp [zeros]
  constructor
  · intro h
    by_cases h1 : ps.length = 0 ∨ 20 < ps.length ∨ 600 < ns.length
    · rw [if_pos h1] at h; cases h
    rw [if_neg h1] at h
    by_cases h2 : (dnAll ns f ps (zeros ns.length)).1 = true
    · rw [if_pos h2, List.all_eq_true] at h
      obtain ⟨a1, a2, a3⟩ := dnAll_yes ns f ps _ hz h2
      have hv : ∀ k, k < ns.length → (visAll ns f (ps.map Pt.root)).count k = 1 := by
        intro k hk
        have := h k (by simpa using hk)
        rw [Bool.and_eq_true, beq_iff_eq, a3, zeros_get] at this
        omega
      obtain ⟨b1, b2⟩ := used_of_vis f a1 hf a2 hv
      refine ⟨by omega, by omega, by omega, b1, fun p hp => a1 _ (List.mem_map_of_mem hp), b2, fun n hn => ?_⟩
      obtain ⟨i, hi, e⟩ := List.mem_iff_getElem.1 hn
      have := h i (by simpa using hi)
      rw [Bool.and_eq_true, List.getElem?_eq_getElem hi, e] at this
      rw [← fits_may]
      exact this.2
    · rw [if_neg h2] at h; cases h
  · intro h
    have hr : ∀ r ∈ ps.map Pt.root, 0 ≤ r ∧ r < (ns.length : Int) := by
      intro r hr
      obtain ⟨p, hp, rfl⟩ := List.mem_map.1 hr
      exact h.rt p hp
    have hv := vis_of_used f h.dn hr hf h.us
    have hle : ∀ j, (zeros ns.length).getD j 0 + (visAll ns f (ps.map Pt.root)).count j ≤ 1 := by
      intro j
      rw [zeros_get]
      by_cases hj : j < ns.length
      · rw [hv j hj]; omega
      · rw [List.count_eq_zero_of_not_mem]
        · omega
        · intro hi
          simp only [visAll, List.mem_flatMap] at hi
          obtain ⟨r, hrm, hi⟩ := hi
          have hh := hr r hrm
          have hdn : Dn ns := h.dn
          have := vis_lt ns f r.toNat (by omega) (hdn.on _) j hi
          omega
    have h2 := dnAll_ok ns h.dn f hf ps _ hz hr hle
    have hp1 := h.p1
    have hp2 := h.p2
    have hn2 := h.n2
    rw [if_neg (by omega), if_pos h2, List.all_eq_true]
    intro i hi
    have hi' : i < ns.length := by simpa using hi
    obtain ⟨_, _, a3⟩ := dnAll_yes ns f ps _ hz h2
    rw [a3, zeros_get, hv i hi', List.getElem?_eq_getElem hi']
    simp only [fits_may]
    rw [h.my _ (List.getElem_mem hi')]
    rfl

/-! ### the program's answer -/
def inDn (ns : List Nd) : Bool := (List.range ns.length).all fun i => (ch ns i).all fun c => decide (0 ≤ c ∧ c < (i : Int))
def inRt (ns : List Nd) (ps : List Pt) : Bool := ps.all fun p => decide (0 ≤ p.root ∧ p.root < (ns.length : Int))
def uses (ns : List Nd) (ps : List Pt) (k : Nat) : Nat := (ns.flatMap below ++ ps.map Pt.root).count (k : Int)
def right (ns : List Nd) (ps : List Pt) : Bool :=
  decide (1 ≤ ps.length ∧ ps.length ≤ 20 ∧ ns.length ≤ 600) && (inDn ns && (inRt ns ps && ((List.range ns.length).all (fun k => uses ns ps k == 1) && ns.all may)))
theorem inDn_iff (ns : List Nd) : inDn ns = true ↔ Dn ns := by
  unfold inDn
  rw [List.all_eq_true]
  constructor
  · intro h i n hn c hc
    have hi : i < ns.length := by
      rcases Nat.lt_or_ge i ns.length with h' | h'
      · exact h'
      · rw [List.getElem?_eq_none h'] at hn; cases hn
    have := h i (by simpa using hi)
    rw [List.all_eq_true] at this
    have := this c (by unfold ch; rw [hn]; exact hc)
    simpa using this
  · intro h i _
    rw [List.all_eq_true]
    intro c hc
    have := h.on [i] i (by simp) c hc
    simpa using this
theorem right_iff (ns : List Nd) (ps : List Pt) : right ns ps = true ↔ Good ns ps := by
  unfold right
  rw [Bool.and_eq_true, Bool.and_eq_true, Bool.and_eq_true, Bool.and_eq_true, decide_eq_true_iff, inDn_iff, inRt, List.all_eq_true, List.all_eq_true, List.all_eq_true]
  constructor
  · rintro ⟨⟨a, b, c⟩, d, e, f, g⟩
    exact ⟨a, b, c, d, fun p hp => by simpa using e p hp, fun k hk => by simpa [uses] using f k (by simpa using hk), g⟩
  · rintro h
    exact ⟨⟨h.p1, h.p2, h.n2⟩, h.dn, fun p hp => by simpa using h.rt p hp, fun k hk => by have := h.us k (by simpa using hk); simpa [uses] using this, h.my⟩
theorem right_ref (ns : List Nd) (ps : List Pt) (f : Nat) (hf : ns.length ≤ f) : refRight ns ps f = right ns ps := by
  rw [Bool.eq_iff_iff, refRight_iff ns ps f hf, right_iff]
end Tr
end Go.Proofs.YtebkaajnnjfhjaaDoor
