/-
  A right tree's nodes as trees: prints, places, depth, likeness. No program in sight.
-/
import Derived.Test.YtebkaajnnjfhjaaDoorTR
namespace Go.Proofs.YtebkaajnnjfhjaaDoor
set_option linter.unusedVariables false
set_option linter.unusedSimpArgs false
namespace Tr

def tof (ns : List Nd) : Nat → Nat → T
  | 0, _ => .emp
  | f + 1, i => match ns[i]? with
    | none => .emp
    | some n => if n.k = 2 then .set n.s else if n.k = 3 then .seq (tof ns f n.a.toNat) (tof ns f n.b.toNat) else if n.k = 4 then .alt (tof ns f n.a.toNat) (tof ns f n.b.toNat) else if n.k = 5 then .tms (tof ns f n.a.toNat) n.mn n.mx else .emp
def tr (ns : List Nd) (i : Nat) : T := tof ns (i + 1) i
theorem tof_any {ns : List Nd} (hd : Dn ns) (f : Nat) : ∀ (g i : Nat), i < f → i < g → tof ns f i = tof ns g i := by
  induction f with
  | zero => intro g i h; omega
  | succ f ih =>
    intro g i h1 h2
    rcases g with _ | g
    · omega
    rw [tof, tof]
    cases hn : ns[i]? with
    | none => rfl
    | some n =>
      have hc := hd i n hn
      simp only
      rcases below_cases n with ⟨hk34, e⟩ | ⟨hk5, e⟩ | ⟨k3, k4, k5, e⟩
      · have ha := hc n.a (by simp [e])
        have hb := hc n.b (by simp [e])
        rw [ih g n.a.toNat (by omega) (by omega), ih g n.b.toNat (by omega) (by omega)]
      · have ha := hc n.a (by simp [e])
        rw [ih g n.a.toNat (by omega) (by omega)]
        simp [hk5]
      · simp [k3, k4, k5]
section
variable {ns : List Nd} (hd : Dn ns) {i : Nat} {n : Nd} (hn : ns[i]? = some n)
include hd hn
theorem tr_child (c : Int) (hc : c ∈ below n) : tof ns i c.toNat = tr ns c.toNat := by
  have := hd i n hn c hc
  exact tof_any hd i _ _ (by omega) (by omega)
omit hd in
theorem tr_set (h : n.k = 2) : tr ns i = .set n.s := by unfold tr; rw [tof, hn]; simp [h]
theorem tr_seq (h : n.k = 3) : tr ns i = .seq (tr ns n.a.toNat) (tr ns n.b.toNat) := by
  have e : below n = [n.a, n.b] := by unfold below; simp [h]
  rw [← tr_child hd hn n.a (by simp [e]), ← tr_child hd hn n.b (by simp [e])]
  unfold tr; rw [tof, hn]; simp [h]
theorem tr_alt (h : n.k = 4) : tr ns i = .alt (tr ns n.a.toNat) (tr ns n.b.toNat) := by
  have e : below n = [n.a, n.b] := by unfold below; simp [h]
  rw [← tr_child hd hn n.a (by simp [e]), ← tr_child hd hn n.b (by simp [e])]
  unfold tr; rw [tof, hn]; simp [h]
theorem tr_tms (h : n.k = 5) : tr ns i = .tms (tr ns n.a.toNat) n.mn n.mx := by
  have e : below n = [n.a] := by unfold below; simp [h]
  rw [← tr_child hd hn n.a (by simp [e])]
  unfold tr; rw [tof, hn]; simp [h]
omit hd in
theorem tr_emp (h2 : n.k ≠ 2) (h3 : n.k ≠ 3) (h4 : n.k ≠ 4) (h5 : n.k ≠ 5) : tr ns i = .emp := by
  unfold tr; rw [tof, hn]; simp [h2, h3, h4, h5]
end
theorem may_kind {n : Nd} (h : may n = true) : n.k = 1 ∨ n.k = 2 ∨ n.k = 3 ∨ n.k = 4 ∨ n.k = 5 := by
  unfold may at h
  rw [Bool.and_eq_true, Bool.and_eq_true, decide_eq_true_iff] at h
  omega
theorem may_times {n : Nd} (h : may n = true) : (n.mx = -1 ∧ (n.mn = 0 ∨ n.mn = 1)) ∨ (0 ≤ n.mn ∧ n.mn ≤ n.mx ∧ n.mx ≤ 9) := by
  unfold may at h
  rw [Bool.and_eq_true] at h
  have h2 := h.2
  by_cases hx : n.mx = -1
  · rw [if_pos hx, decide_eq_true_iff] at h2; exact .inl ⟨hx, h2⟩
  · rw [if_neg hx, decide_eq_true_iff] at h2; exact .inr h2
/-- The sets' words are words. -/
def Words (ns : List Nd) : Prop := ∀ n ∈ ns, n.s.Ok
theorem tr_ok {ns : List Nd} (hd : Dn ns) (hm : ∀ n ∈ ns, may n = true) (hw : Words ns) : ∀ f i, i < f → (tr ns i).Ok := by
  intro f
  induction f with
  | zero => intro i h; omega
  | succ f ih =>
    intro i hi
    cases hn : ns[i]? with
    | none => unfold tr; rw [tof, hn]; trivial
    | some n =>
      have hmem := List.mem_of_getElem? hn
      have hc := hd i n hn
      rcases below_cases n with ⟨hk34, e⟩ | ⟨hk5, e⟩ | ⟨k3, k4, k5, e⟩
      · have ha := hc n.a (by simp [e])
        have hb := hc n.b (by simp [e])
        rcases hk34 with hk | hk
        · rw [tr_seq hd hn hk]; exact ⟨ih _ (by omega), ih _ (by omega)⟩
        · rw [tr_alt hd hn hk]; exact ⟨ih _ (by omega), ih _ (by omega)⟩
      · have ha := hc n.a (by simp [e])
        rw [tr_tms hd hn hk5]
        exact ⟨ih _ (by omega), may_times (hm n hmem)⟩
      · by_cases k2 : n.k = 2
        · rw [tr_set hn k2]; exact hw n hmem
        · rw [tr_emp hn k2 k3 k4 k5]; trivial
/-- The parts of a tree. -/
def trees (ns : List Nd) (ps : List Pt) : List (Bool × T) := ps.map fun p => (p.no, tr ns p.root.toNat)
theorem trees_ok {ns : List Nd} {ps : List Pt} (h : Good ns ps) (hw : Words ns) : ∀ x ∈ trees ns ps, x.2.Ok := by
  intro x hx
  obtain ⟨p, _, rfl⟩ := List.mem_map.1 hx
  exact tr_ok h.dn h.my hw _ _ (Nat.lt_succ_self _)
def print (ns : List Nd) (ps : List Pt) : B := if right ns ps then pparts (trees ns ps) else []

/-! ### places -/
def cap : Nat := 1073741824
def plc : T → Nat
  | .emp => 0
  | .set _ => 1
  | .seq a b => min (plc a + plc b) cap
  | .alt a b => min (plc a + plc b) cap
  | .tms a _ mx => if 0 ≤ mx then min (plc a * mx.toNat) cap else plc a
theorem plc_le (t : T) : plc t ≤ cap := by
  induction t with
  | emp => unfold plc cap; omega
  | set s => unfold plc cap; omega
  | seq a b _ _ => exact Nat.min_le_right _ _
  | alt a b _ _ => exact Nat.min_le_right _ _
  | tms a mn mx ih => unfold plc; split; exact Nat.min_le_right _ _; exact ih
def plcs (n : Nat) (l : List (Bool × T)) : Nat := l.foldl (fun n x => min (n + plc x.2) cap) n
theorem plcs_le (l : List (Bool × T)) : ∀ n, n ≤ cap → plcs n l ≤ cap := by
  induction l with
  | nil => intro n h; exact h
  | cons x l ih => intro n h; exact ih _ (Nat.min_le_right _ _)
def places (ns : List Nd) (ps : List Pt) : Nat := if right ns ps then plcs 0 (trees ns ps) else 0
theorem places_le (ns : List Nd) (ps : List Pt) : places ns ps ≤ 1073741824 := by
  unfold places
  split
  · exact plcs_le _ 0 (by decide)
  · omega

/-! ### depth -/
def dep : T → Nat
  | .emp => 1
  | .set _ => 1
  | .seq a b => max (dep a) (dep b) + 1
  | .alt a b => max (dep a) (dep b) + 1
  | .tms a _ _ => dep a + 1
def maxl (l : List Nat) : Nat := l.foldr max 0
theorem maxl_le {l : List Nat} {m : Nat} (h : ∀ x ∈ l, x ≤ m) : maxl l ≤ m := by
  induction l with
  | nil => exact Nat.zero_le _
  | cons a l ih =>
    have h1 := h a (by simp)
    have h2 := ih fun x hx => h x (by simp [hx])
    show max a (maxl l) ≤ m
    omega
theorem le_maxl {l : List Nat} {x : Nat} (h : x ∈ l) : x ≤ maxl l := by
  induction l with
  | nil => cases h
  | cons a l ih =>
    show x ≤ max a (maxl l)
    rcases List.mem_cons.1 h with rfl | h
    · omega
    · have := ih h; omega
def depAll (ns : List Nd) : Nat := maxl ((List.range ns.length).map fun i => dep (tr ns i))
def depRoots (ns : List Nd) (ps : List Pt) : Nat := maxl (ps.map fun p => dep (tr ns p.root.toNat))
theorem dep_child {ns : List Nd} (hd : Dn ns) {j : Nat} {n : Nd} (hn : ns[j]? = some n) (c : Int) (hc : c ∈ below n) : dep (tr ns c.toNat) < dep (tr ns j) := by
  rcases below_cases n with ⟨hk34, e⟩ | ⟨hk5, e⟩ | ⟨k3, k4, k5, e⟩
  · rw [e] at hc
    simp only [List.mem_cons, List.not_mem_nil, or_false] at hc
    rcases hk34 with hk | hk
    · rw [tr_seq hd hn hk]
      show _ < max _ _ + 1
      rcases hc with rfl | rfl <;> omega
    · rw [tr_alt hd hn hk]
      show _ < max _ _ + 1
      rcases hc with rfl | rfl <;> omega
  · rw [e] at hc
    simp only [List.mem_cons, List.not_mem_nil, or_false] at hc
    rw [tr_tms hd hn hk5, hc]
    exact Nat.lt_succ_self _
  · rw [e] at hc; cases hc
theorem dep_roots {ns : List Nd} {ps : List Pt} (h : Good ns ps) : depAll ns = depRoots ns ps := by
  have hd : Dn ns := h.dn
  refine Nat.le_antisymm (maxl_le ?_) (maxl_le ?_)
  · have key : ∀ d i, i < ns.length → ns.length - i ≤ d → dep (tr ns i) ≤ depRoots ns ps := by
      intro d
      induction d with
      | zero => intro i h1 h2; omega
      | succ d ih =>
        intro i hi hid
        have hu := h.us i hi
        have hm : (i : Int) ∈ ns.flatMap below ++ ps.map Pt.root := List.count_pos_iff.1 (by omega)
        rcases List.mem_append.1 hm with hm | hm
        · obtain ⟨n, hn, hc⟩ := List.mem_flatMap.1 hm
          obtain ⟨j, hj, e⟩ := List.mem_iff_getElem.1 hn
          have hn' : ns[j]? = some n := by rw [List.getElem?_eq_getElem hj, e]
          have hlt := hd j n hn' _ hc
          have h1 := dep_child hd hn' _ hc
          have h2 := ih j hj (by omega)
          rw [Int.toNat_natCast] at h1
          omega
        · obtain ⟨p, hp, e⟩ := List.mem_map.1 hm
          refine le_maxl (List.mem_map.2 ⟨p, hp, ?_⟩)
          rw [e, Int.toNat_natCast]
    intro x hx
    obtain ⟨i, hi, rfl⟩ := List.mem_map.1 hx
    exact key _ i (by simpa using hi) (Nat.le_refl _)
  · intro x hx
    obtain ⟨p, hp, rfl⟩ := List.mem_map.1 hx
    have := h.rt p hp
    exact le_maxl (List.mem_map.2 ⟨p.root.toNat, by simp; omega, rfl⟩)
def depth (ns : List Nd) (ps : List Pt) : Nat := if right ns ps then depAll ns else 0
theorem dep_le {ns : List Nd} (hd : Dn ns) : ∀ f i, i < f → dep (tr ns i) ≤ i + 1 := by
  intro f
  induction f with
  | zero => intro i h; omega
  | succ f ih =>
    intro i hi
    cases hn : ns[i]? with
    | none => unfold tr; rw [tof, hn]; show 1 ≤ _; omega
    | some n =>
      have hc := hd i n hn
      rcases below_cases n with ⟨hk34, e⟩ | ⟨hk5, e⟩ | ⟨k3, k4, k5, e⟩
      · have ha := hc n.a (by simp [e])
        have hb := hc n.b (by simp [e])
        have h1 := ih n.a.toNat (by omega)
        have h2 := ih n.b.toNat (by omega)
        rcases hk34 with hk | hk
        · rw [tr_seq hd hn hk]; show max _ _ + 1 ≤ _; omega
        · rw [tr_alt hd hn hk]; show max _ _ + 1 ≤ _; omega
      · have ha := hc n.a (by simp [e])
        have h1 := ih n.a.toNat (by omega)
        rw [tr_tms hd hn hk5]; show _ + 1 ≤ _; omega
      · by_cases k2 : n.k = 2
        · rw [tr_set hn k2]; show 1 ≤ _; omega
        · rw [tr_emp hn k2 k3 k4 k5]; show 1 ≤ _; omega
theorem depth_le (ns : List Nd) (ps : List Pt) : depth ns ps ≤ ns.length := by
  unfold depth
  by_cases h : right ns ps = true
  · rw [if_pos h]
    have g := (right_iff ns ps).1 h
    refine maxl_le fun x hx => ?_
    obtain ⟨i, hi, rfl⟩ := List.mem_map.1 hx
    have := dep_le (show Dn ns from g.dn) _ i (Nat.lt_succ_self _)
    have : i < ns.length := by simpa using hi
    omega
  · rw [if_neg h]; omega

/-! ### likeness -/
def likeF (ns ms : List Nd) : Nat → Nat → Nat → Bool
  | 0, _, _ => false
  | f + 1, i, k => match ns[i]?, ms[k]? with
    | some a, some b => if a.k ≠ b.k ∨ a.s ≠ b.s ∨ a.mn ≠ b.mn ∨ a.mx ≠ b.mx then false else
      if a.k = 3 ∨ a.k = 4 then likeF ns ms f a.a.toNat b.a.toNat && likeF ns ms f a.b.toNat b.b.toNat else if a.k = 5 then likeF ns ms f a.a.toNat b.a.toNat else true
    | _, _ => false
theorem bare_eqs {n : Nd} (h : may n = true) : (n.k ≠ 2 → n.s = W4.zero) ∧ (n.k ≠ 5 → n.mn = 0 ∧ n.mx = 0) := by
  unfold may at h
  rw [Bool.and_eq_true, Bool.and_eq_true] at h
  have h2 := h.1.2
  unfold bareB at h2
  simp only [Bool.and_eq_true, Bool.or_eq_true, beq_iff_eq] at h2
  obtain ⟨⟨⟨h3, h4⟩, h5⟩, h6⟩ := h2
  exact ⟨fun e => h3.resolve_left e, fun e => h6.resolve_left e⟩
theorem like_tr {ns ms : List Nd} (hd : Dn ns) (he : Dn ms) (hm : ∀ n ∈ ns, may n = true) (hm' : ∀ n ∈ ms, may n = true) : ∀ f i k, i < f → i < ns.length → k < ms.length → likeF ns ms f i k = decide (tr ns i = tr ms k) := by
  intro f
  induction f with
  | zero => intro i k h; omega
  | succ f ih =>
    intro i k hf hi hk
    rw [likeF, List.getElem?_eq_getElem hi, List.getElem?_eq_getElem hk]
    generalize hx : ns[i] = x
    generalize hy : ms[k] = y
    have hn : ns[i]? = some x := by rw [List.getElem?_eq_getElem hi, hx]
    have ho : ms[k]? = some y := by rw [List.getElem?_eq_getElem hk, hy]
    have mx := hm x (by rw [← hx]; exact List.getElem_mem hi)
    have my := hm' y (by rw [← hy]; exact List.getElem_mem hk)
    obtain ⟨x1, x2⟩ := bare_eqs mx
    obtain ⟨y1, y2⟩ := bare_eqs my
    have cx := hd i x hn
    have cy := he k y ho
    simp only
    rcases may_kind mx with e | e | e | e | e <;> rcases may_kind my with e' | e' | e' | e' | e'
    all_goals
      first
      | rw [tr_emp hn (by omega) (by omega) (by omega) (by omega)]
      | rw [tr_set hn e]
      | rw [tr_seq hd hn e]
      | rw [tr_alt hd hn e]
      | rw [tr_tms hd hn e]
    all_goals
      first
      | rw [tr_emp ho (by omega) (by omega) (by omega) (by omega)]
      | rw [tr_set ho e']
      | rw [tr_seq he ho e']
      | rw [tr_alt he ho e']
      | rw [tr_tms he ho e']
    all_goals try (rw [if_pos (.inl (by omega))]; simp; done)
    · have s1 := x1 (by omega)
      have s2 := y1 (by omega)
      have m1 := x2 (by omega)
      have m2 := y2 (by omega)
      rw [if_neg (by rw [s1, s2, m1.1, m1.2, m2.1, m2.2, e, e']; simp), if_neg (by omega), if_neg (by omega)]
      simp
    · have m1 := x2 (by omega)
      have m2 := y2 (by omega)
      rw [m1.1, m1.2, m2.1, m2.2, e, e']
      by_cases h : x.s = y.s <;> simp [h]
    · have s1 := x1 (by omega)
      have s2 := y1 (by omega)
      have m1 := x2 (by omega)
      have m2 := y2 (by omega)
      have ex : below x = [x.a, x.b] := by unfold below; simp [e]
      have ey : below y = [y.a, y.b] := by unfold below; simp [e']
      have a1 := cx x.a (by simp [ex])
      have a2 := cx x.b (by simp [ex])
      have b1 := cy y.a (by simp [ey])
      have b2 := cy y.b (by simp [ey])
      rw [if_neg (by rw [s1, s2, m1.1, m1.2, m2.1, m2.2, e, e']; simp), if_pos (by omega), ih _ _ (by omega) (by omega) (by omega), ih _ _ (by omega) (by omega) (by omega), ← Bool.decide_and]
      simp
    · have s1 := x1 (by omega)
      have s2 := y1 (by omega)
      have m1 := x2 (by omega)
      have m2 := y2 (by omega)
      have ex : below x = [x.a, x.b] := by unfold below; simp [e]
      have ey : below y = [y.a, y.b] := by unfold below; simp [e']
      have a1 := cx x.a (by simp [ex])
      have a2 := cx x.b (by simp [ex])
      have b1 := cy y.a (by simp [ey])
      have b2 := cy y.b (by simp [ey])
      rw [if_neg (by rw [s1, s2, m1.1, m1.2, m2.1, m2.2, e, e']; simp), if_pos (by omega), ih _ _ (by omega) (by omega) (by omega), ih _ _ (by omega) (by omega) (by omega), ← Bool.decide_and]
      simp
    · have s1 := x1 (by omega)
      have s2 := y1 (by omega)
      have ex : below x = [x.a] := by unfold below; simp [e]
      have ey : below y = [y.a] := by unfold below; simp [e']
      have a1 := cx x.a (by simp [ex])
      have b1 := cy y.a (by simp [ey])
      by_cases h : x.mn ≠ y.mn ∨ x.mx ≠ y.mx
      · rw [if_pos (by right; right; exact h)]
        simp
        omega
      · have h1 : x.mn = y.mn := by omega
        have h2 : x.mx = y.mx := by omega
        rw [if_neg (by rw [s1, s2, h1, h2, e, e']; simp), if_neg (by omega), if_pos e, ih _ _ (by omega) (by omega) (by omega)]
        simp [h1, h2]
/-- Two right trees, part by part. -/
def likes (ns ms : List Nd) (ps qs : List Pt) : Bool := decide (ps.length = qs.length) && (List.zip ps qs).all fun x => x.1.no == x.2.no && decide (tr ns x.1.root.toNat = tr ms x.2.root.toNat)
theorem likes_iff (ns ms : List Nd) (ps qs : List Pt) : likes ns ms ps qs = true ↔ trees ns ps = trees ms qs := by
  unfold likes trees
  induction ps generalizing qs with
  | nil => rcases qs with _ | ⟨q, qs⟩ <;> simp
  | cons p ps ih =>
    rcases qs with _ | ⟨q, qs⟩
    · simp
    · have := ih qs
      rw [Bool.and_eq_true, decide_eq_true_iff] at this
      simp only [List.length_cons, List.zip_cons_cons, List.all_cons, List.map_cons, List.cons.injEq, Prod.mk.injEq, Bool.and_eq_true, decide_eq_true_iff, beq_iff_eq, ← this, Nat.add_right_cancel_iff]
      constructor
      · rintro ⟨h1, ⟨h2, h3⟩, h4⟩; exact ⟨⟨h2, h3⟩, h1, h4⟩
      · rintro ⟨⟨h2, h3⟩, h1, h4⟩; exact ⟨h1, ⟨h2, h3⟩, h4⟩
/-- Two right trees have one print just if they are alike. -/
theorem two {ns ms : List Nd} {ps qs : List Pt} (h : Good ns ps) (g : Good ms qs) (hw : Words ns) (gw : Words ms) : (print ns ps = print ms qs) ↔ trees ns ps = trees ms qs := by
  unfold print
  rw [(right_iff ns ps).2 h, (right_iff ms qs).2 g, if_pos rfl, if_pos rfl]
  have h1 := h.p1
  have g1 := g.p1
  have hne : trees ns ps ≠ [] := by intro e; have := congrArg List.length e; simp [trees] at this; rw [this] at h1; simp at h1
  have gne : trees ms qs ≠ [] := by intro e; have := congrArg List.length e; simp [trees] at this; rw [this] at g1; simp at g1
  refine ⟨fun e => ?_, fun e => by rw [e]⟩
  exact pparts_inj hne gne (trees_ok h hw) (trees_ok g gw) (by simp [trees]; exact h.p2) (by simp [trees]; exact g.p2) e
theorem print_ne {ns : List Nd} {ps : List Pt} (hw : Words ns) : print ns ps ≠ [] ↔ right ns ps = true := by
  unfold print
  by_cases h : right ns ps = true
  · rw [if_pos h]
    have g := (right_iff ns ps).1 h
    have h1 := g.p1
    have hne : trees ns ps ≠ [] := by intro e; have := congrArg List.length e; simp [trees] at this; rw [this] at h1; simp at h1
    exact ⟨fun _ => h, fun _ => pparts_ne hne (trees_ok g hw)⟩
  · rw [if_neg h]
    simp [h]
theorem print_scan {ns : List Nd} {ps : List Pt} (hw : Words ns) : scan (print ns ps) 0 false = some (0, false) := by
  unfold print
  by_cases h : right ns ps = true
  · rw [if_pos h]
    exact scan_parts _ (trees_ok ((right_iff ns ps).1 h) hw)
  · rw [if_neg h, scan]
end Tr
end Go.Proofs.YtebkaajnnjfhjaaDoor
