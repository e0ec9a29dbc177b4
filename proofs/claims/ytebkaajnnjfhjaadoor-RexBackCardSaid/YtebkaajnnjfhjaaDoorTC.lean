/-
  The reader reads each print back: trees. No program in sight.
-/
import Derived.Test.YtebkaajnnjfhjaaDoorTB
namespace Go.Proofs.YtebkaajnnjfhjaaDoor
set_option linter.unusedVariables false
set_option linter.unusedSimpArgs false
namespace Tr

def okh (c : UInt8) : Bool := ![38, 33, 124, 42, 43, 63, 123, 125, 93, 41].contains c
theorem okh_ne {c x : UInt8} (h : okh c = true) (hx : okh x = false) : c ≠ x := by rintro rfl; rw [h] at hx; exact Bool.noConfusion hx
theorem pset_head (s : W4) (hs : s.Ok) : ∃ c u, pset s = c :: u ∧ okh c = true := by
  obtain ⟨x, t, h1, _, h3⟩ := atm_set 520 (Nat.le_refl _) (fun _ _ _ => .no 0 0) s hs [] 0
  exact ⟨x, t, h1, by unfold okh; rw [h3]; rfl⟩
theorem wr_head {b : Bool} {l : B} (h : ∃ c u, l = c :: u ∧ okh c = true) : ∃ c u, wr b l = c :: u ∧ okh c = true := by
  cases b
  · exact h
  · exact ⟨40, _, rfl, by decide⟩
theorem app_head {l m : B} (h : ∃ c u, l = c :: u ∧ okh c = true) : ∃ c u, l ++ m = c :: u ∧ okh c = true := by
  obtain ⟨c, u, rfl, h⟩ := h
  exact ⟨c, u ++ m, rfl, h⟩
theorem pn_head (t : T) (ht : t.Ok) : ∃ c u, pn t = c :: u ∧ okh c = true := by
  induction t with
  | emp => exact ⟨40, [41], rfl, by decide⟩
  | set s => exact pset_head s ht
  | seq a b iha _ => exact app_head (wr_head (iha ht.1))
  | alt a b iha _ => exact app_head (iha ht.1)
  | tms a mn mx iha => exact app_head (wr_head (iha ht.1))
theorem stops_okh {c : UInt8} (h : okh c = true) (l : B) : stops (c :: l) = false := by
  unfold stops
  simp only [Bool.or_eq_false_iff, beq_eq_false_iff_ne]
  exact ⟨⟨okh_ne h (by decide), okh_ne h (by decide)⟩, okh_ne h (by decide)⟩
theorem nx_ne {c x : UInt8} (h : c ≠ x) (l : B) : nx x (c :: l) = false := by unfold nx; simp [h]
theorem notim_okh {c : UInt8} (h : okh c = true) (l : B) : notim (c :: l) :=
  ⟨nx_ne (okh_ne h (by decide)) l, nx_ne (okh_ne h (by decide)) l, nx_ne (okh_ne h (by decide)) l, nx_ne (okh_ne h (by decide)) l⟩
theorem notim_head {l m : B} (h : ∃ c u, l = c :: u ∧ okh c = true) : notim (l ++ m) := by
  obtain ⟨c, u, rfl, h⟩ := h
  exact notim_okh h _
def tl (l : B) : Prop := stops l = true
theorem tl_notim {l : B} (h : tl l) : notim l := by
  rcases l with _ | ⟨c, l⟩
  · exact ⟨rfl, rfl, rfl, rfl⟩
  · unfold tl stops at h
    simp only [Bool.or_eq_true, beq_iff_eq] at h
    rcases h with (rfl | rfl) | rfl <;> exact ⟨rfl, rfl, rfl, rfl⟩

section
variable (f0 : Nat)
abbrev prw (t : T) : Bool := t.isSeq || t.isAlt || t.isTms
abbrev fpw (t : T) : Bool := t.isAlt || t.isSeq
/-- What is claimed of a reading, of print x, by nesting n of d: it goes on, or it is too deep. -/
def Goes {α : Type} (n d : Nat) (r : R α) (P : R α → Prop) : Prop := (n ≤ d → P r) ∧ (d < n → ∃ q, r = .no q 3)
def CA (t : T) (d : Nat) : Prop := ∀ c u, wr (prw t) (pn t) = c :: u → ∀ rest p, (wr (prw t) (pn t) ++ rest).length < f0 →
  Goes (wn (prw t) (nst t)) d (atm f0 (grp f0 d) c (u ++ rest) p) (· = .ok t rest (p + (wr (prw t) (pn t)).length))
def Brs (d n : Nat) (x : B) (acc : Option T) (t : T) : Prop := ∀ F rest p, notim rest → (x ++ rest).length < f0 → (x ++ rest).length < F →
  Goes n d (bra f0 (grp f0 d) F acc (x ++ rest) p) fun r => ∃ F', rest.length < F' ∧ r = bra f0 (grp f0 d) F' (some t) rest (p + x.length)
def CB (t : T) (d : Nat) : Prop := t.isAlt = false → Brs f0 d (nst t) (pn t) none t
def CC (t : T) (d : Nat) : Prop := ∀ acc, Brs f0 d (wn (fpw t) (nst t)) (wr (fpw t) (pn t)) acc (sqd t acc)
def Lead (t : T) (d : Nat) : Prop := Brs f0 d (wn t.isAlt (nst t)) (wr t.isAlt (pn t)) none t
def CG (t : T) (d : Nat) : Prop := ∀ F rest p, tl rest → (pn t ++ rest).length < f0 → (pn t ++ rest).length < F →
  Goes (nst t) d ((bra f0 (grp f0 d) f0 none (pn t ++ rest) p).bnd fun t l1 p1 => pts f0 (grp f0 d) F t l1 p1) fun r => ∃ F', rest.length < F' ∧ r = pts f0 (grp f0 d) F' t rest (p + (pn t).length)

theorem lead_of {t : T} {d : Nat} (hb : CB f0 t d) (hc : CC f0 t d) : Lead f0 t d := by
  unfold Lead
  cases h : t.isAlt
  · exact hb h
  · have := hc none
    unfold fpw at this
    rw [h] at this
    exact this
theorem cc_of_ca {t : T} {d : Nat} (ht : t.Ok) (ha : CA f0 t d) (hn : t.isTms = false) : CC f0 t d := by
  intro acc F rest p hr h0 hF
  have e : fpw t = prw t := by unfold fpw prw; rw [hn, Bool.or_false, Bool.or_comm]
  rw [e] at h0 hF ⊢
  obtain ⟨c, u, hcu, hk⟩ := wr_head (b := prw t) (pn_head t ht)
  have H := ha c u hcu rest p h0
  rcases F with _ | F
  · omega
  have step : bra f0 (grp f0 d) (F + 1) acc (wr (prw t) (pn t) ++ rest) p = (atm f0 (grp f0 d) c (u ++ rest) p).bnd fun x l1 p1 => (tim l1 p1).bnd fun m l2 p2 => bra f0 (grp f0 d) F (some (sqd (tmd x m) acc)) l2 p2 := by
    rw [hcu, List.cons_append, bra, stops_okh hk]
    rfl
  rw [step]
  refine ⟨fun hd => ?_, fun hd => ?_⟩
  · rw [H.1 hd]
    simp only [R.bnd, tim_none rest hr]
    refine ⟨F, ?_, rfl⟩
    rw [hcu] at hF
    simp only [List.length_append, List.length_cons] at hF
    omega
  · obtain ⟨q, hq⟩ := H.2 hd
    rw [hq]
    exact ⟨q, rfl⟩
theorem cb_of_cc {t : T} {d : Nat} (hc : CC f0 t d) (hs : t.isSeq = false) : CB f0 t d := by
  intro h
  have := hc none
  unfold fpw at this
  rw [h, hs] at this
  exact this
theorem pts_stop (g : Nat → B → Nat → R T) (F : Nat) (t : T) (rest : B) (p : Nat) (h : nx 124 rest = false) (hF : 0 < F) : pts f0 g F t rest p = .ok t rest p := by
  rcases F with _ | F
  · omega
  rw [pts, h]; rfl
theorem bra_stop (g : Nat → B → Nat → R T) (F : Nat) (acc : Option T) (rest : B) (p : Nat) (h : tl rest) (hF : 0 < F) : bra f0 g F acc rest p = .ok (acc.getD .emp) rest p := by
  have h' : stops rest = true := h
  rcases F with _ | F
  · omega
  rcases rest with _ | ⟨c, rest⟩ <;> rw [bra, h'] <;> rfl
theorem cg_of_cb {t : T} {d : Nat} (hb : CB f0 t d) (h : t.isAlt = false) : CG f0 t d := by
  intro F rest p hr h0 hF
  have H := hb h f0 rest p (tl_notim hr) h0 h0
  refine ⟨fun hd => ?_, fun hd => ?_⟩
  · obtain ⟨F', h1, h2⟩ := H.1 hd
    rw [h2, bra_stop _ _ _ _ _ _ hr (by omega)]
    refine ⟨F, ?_, rfl⟩
    simp only [List.length_append] at hF
    omega
  · obtain ⟨q, hq⟩ := H.2 hd
    rw [hq]
    exact ⟨q, rfl⟩
theorem ca_of_cg {t : T} (hg : ∀ d, CG f0 t d) (h : prw t = true) (d : Nat) : CA f0 t d := by
  intro c u hcu rest p h0
  rw [h] at hcu h0 ⊢
  unfold wr at hcu h0 ⊢
  simp only [if_true] at hcu h0 ⊢
  injection hcu with h1 h2
  subst h1 h2
  unfold atm
  rw [if_pos rfl]
  have e : (pn t ++ [41]) ++ rest = pn t ++ 41 :: rest := by rw [List.append_assoc]; rfl
  rw [e]
  rcases d with _ | d
  · refine ⟨fun hd => ?_, fun _ => ⟨p, by rw [grp]⟩⟩
    unfold wn at hd
    simp at hd
  · rw [grp, pat]
    have hlen : (pn t ++ 41 :: rest).length < f0 := by
      simp only [List.length_cons, List.length_append, List.length_nil] at h0 ⊢; omega
    have H := hg d f0 (41 :: rest) (p + 1) rfl hlen hlen
    unfold wn
    simp only [if_true]
    refine ⟨fun hd => ?_, fun hd => ?_⟩
    · obtain ⟨F', h1, h2⟩ := H.1 (by omega)
      rw [h2, pts_stop _ _ _ _ _ _ rfl (by omega)]
      simp only [R.bnd]
      rw [show nx 41 (41 :: rest) = true from rfl, if_pos rfl]
      simp only [List.drop_succ_cons, List.drop_zero, List.length_cons, List.length_append, List.length_nil]
      congr 1
      omega
    · obtain ⟨q, hq⟩ := H.2 (by omega)
      rw [hq]
      exact ⟨q, rfl⟩
theorem goes_max {α : Type} {m n d : Nat} {r : R α} {P Q : R α → Prop} (h1 : Goes m d r P) (h2 : m ≤ d → P r → Goes n d r Q) : Goes (max m n) d r Q := by
  refine ⟨fun hd => (h2 (by omega) (h1.1 (by omega))).1 (by omega), fun hd => ?_⟩
  by_cases hm : d < m
  · exact h1.2 hm
  · exact (h2 (by omega) (h1.1 (by omega))).2 (by omega)
/-- All that is claimed of a tree. -/
theorem all_of (hf : 520 ≤ f0) (t : T) (ht : t.Ok) : ∀ d, CA f0 t d ∧ CB f0 t d ∧ CC f0 t d ∧ CG f0 t d := by
  induction t with
  | emp =>
    have ha : ∀ d, CA f0 .emp d := by
      intro d c u hcu rest p h0
      have e : wr (prw .emp) (pn .emp) = [40, 41] := rfl
      rw [e] at hcu ⊢
      injection hcu with h1 h2
      subst h1 h2
      have en : wn (prw .emp) (nst .emp) = 1 := rfl
      rw [en]
      unfold atm
      rw [if_pos rfl]
      rcases d with _ | d
      · exact ⟨fun hd => absurd hd (by omega), fun _ => ⟨p, by rw [grp]⟩⟩
      · refine ⟨fun _ => ?_, fun hd => absurd hd (by omega)⟩
        rw [grp, pat]
        have e2 : ([41] : B) ++ rest = 41 :: rest := rfl
        rw [e2, bra_stop f0 (grp f0 d) f0 none (41 :: rest) (p + 1) rfl (by omega)]
        simp only [R.bnd]
        rw [pts_stop f0 (grp f0 d) f0 _ (41 :: rest) (p + 1) rfl (by omega)]
        rfl
    intro d
    have hc := cc_of_ca f0 (t := .emp) trivial (ha d) rfl
    have hb := cb_of_cc f0 hc rfl
    exact ⟨ha d, hb, hc, cg_of_cb f0 hb rfl⟩
  | set s =>
    have ha : ∀ d, CA f0 (.set s) d := by
      intro d c u hcu rest p h0
      have e : wr (prw (.set s)) (pn (.set s)) = pset s := rfl
      rw [e] at hcu ⊢
      obtain ⟨x, t, h1, h2, _⟩ := atm_set f0 hf (grp f0 d) s ht rest p
      rw [hcu] at h1
      injection h1 with e1 e2
      subst e1 e2
      refine ⟨fun _ => h2, fun hd => absurd hd (Nat.not_lt_zero _)⟩
    intro d
    have hc := cc_of_ca f0 (t := .set s) ht (ha d) rfl
    have hb := cb_of_cc f0 hc rfl
    exact ⟨ha d, hb, hc, cg_of_cb f0 hb rfl⟩
  | seq a b iha ihb =>
    have hb : ∀ d, CB f0 (.seq a b) d := by
      intro d _ F rest p hr h0 hF
      obtain ⟨_, a2, a3, _⟩ := iha ht.1 d
      obtain ⟨_, _, b3, _⟩ := ihb ht.2 d
      have hl := lead_of f0 a2 a3
      have e : pn (.seq a b) = wr a.isAlt (pn a) ++ wr (fpw b) (pn b) := rfl
      have en : nst (.seq a b) = max (wn a.isAlt (nst a)) (wn (fpw b) (nst b)) := rfl
      rw [e, List.append_assoc] at h0 hF ⊢
      rw [en]
      refine goes_max (hl F (wr (fpw b) (pn b) ++ rest) p (notim_head (wr_head (pn_head b ht.2))) h0 hF) ?_
      rintro hd ⟨F', h1, h2⟩
      rw [h2]
      have H := b3 (some a) F' rest (p + (wr a.isAlt (pn a)).length) hr (by simp only [List.length_append] at h0 ⊢; omega) h1
      refine ⟨fun hd => ?_, H.2⟩
      obtain ⟨F2, g1, g2⟩ := H.1 hd
      refine ⟨F2, g1, ?_⟩
      rw [g2]
      simp only [List.length_append, sqd]
      rw [Nat.add_assoc]
    have hg : ∀ d, CG f0 (.seq a b) d := fun d => cg_of_cb f0 (hb d) rfl
    have ha := ca_of_cg f0 hg rfl
    exact fun d => ⟨ha d, hb d, cc_of_ca f0 ht (ha d) rfl, hg d⟩
  | alt a b iha ihb =>
    have hg : ∀ d, CG f0 (.alt a b) d := by
      intro d F rest p hr h0 hF
      obtain ⟨_, _, _, a4⟩ := iha ht.1 d
      obtain ⟨_, b2, b3, _⟩ := ihb ht.2 d
      have hl := lead_of f0 b2 b3
      have e : pn (.alt a b) = pn a ++ 124 :: wr b.isAlt (pn b) := rfl
      have en : nst (.alt a b) = max (nst a) (wn b.isAlt (nst b)) := rfl
      have e2 : (pn a ++ 124 :: wr b.isAlt (pn b)) ++ rest = pn a ++ 124 :: (wr b.isAlt (pn b) ++ rest) := by simp
      rw [e, e2] at h0 hF ⊢
      rw [en]
      refine goes_max (a4 F (124 :: (wr b.isAlt (pn b) ++ rest)) p rfl h0 hF) ?_
      rintro hd ⟨F', h1, h2⟩
      rw [h2]
      rcases F' with _ | F'
      · simp at h1
      rw [pts, show nx 124 (124 :: (wr b.isAlt (pn b) ++ rest)) = true from rfl, if_pos rfl]
      have hl0 : (wr b.isAlt (pn b) ++ rest).length < f0 := by simp only [List.length_append, List.length_cons] at h0 ⊢; omega
      have H := hl f0 rest (p + (pn a).length + 1) (tl_notim hr) hl0 hl0
      refine ⟨fun hd => ?_, fun hd => ?_⟩
      · obtain ⟨F2, g1, g2⟩ := H.1 hd
        refine ⟨F', ?_, ?_⟩
        · simp only [List.length_append, List.length_cons] at h1
          omega
        · rw [List.drop_succ_cons, List.drop_zero, g2, bra_stop _ _ _ _ _ _ hr (by omega)]
          simp only [R.bnd, Option.getD_some, List.length_append, List.length_cons]
          congr 1
          omega
      · obtain ⟨q, hq⟩ := H.2 hd
        rw [List.drop_succ_cons, List.drop_zero, hq]
        exact ⟨q, rfl⟩
    have ha := ca_of_cg f0 hg rfl
    exact fun d => ⟨ha d, fun h => absurd h (by simp [T.isAlt]), cc_of_ca f0 ht (ha d) rfl, hg d⟩
  | tms a mn mx iha =>
    have hc : ∀ d, CC f0 (.tms a mn mx) d := by
      intro d acc F rest p hr h0 hF
      obtain ⟨a1, _, _, _⟩ := iha ht.1 d
      have e : wr (fpw (.tms a mn mx)) (pn (.tms a mn mx)) = wr (prw a) (pn a) ++ ptm mn mx := rfl
      have en : wn (fpw (.tms a mn mx)) (nst (.tms a mn mx)) = wn (prw a) (nst a) := rfl
      rw [e, List.append_assoc] at h0 hF ⊢
      rw [en]
      obtain ⟨c, u, hcu, hk⟩ := wr_head (b := prw a) (pn_head a ht.1)
      have H := a1 c u hcu (ptm mn mx ++ rest) p h0
      rcases F with _ | F
      · omega
      have step : bra f0 (grp f0 d) (F + 1) acc (wr (prw a) (pn a) ++ (ptm mn mx ++ rest)) p = (atm f0 (grp f0 d) c (u ++ (ptm mn mx ++ rest)) p).bnd fun x l1 p1 => (tim l1 p1).bnd fun m l2 p2 => bra f0 (grp f0 d) F (some (sqd (tmd x m) acc)) l2 p2 := by
        rw [hcu, List.cons_append, bra, stops_okh hk]
        rfl
      rw [step]
      refine ⟨fun hd => ?_, fun hd => ?_⟩
      · rw [H.1 hd]
        simp only [R.bnd, tim_ptm mn mx ht.2]
        refine ⟨F, ?_, ?_⟩
        · rw [hcu] at hF
          simp only [List.length_append, List.length_cons] at hF
          omega
        · simp only [tmd, List.length_append]
          rw [Nat.add_assoc]
      · obtain ⟨q, hq⟩ := H.2 hd
        rw [hq]
        exact ⟨q, rfl⟩
    have hb : ∀ d, CB f0 (.tms a mn mx) d := fun d => cb_of_cc f0 (hc d) rfl
    have hg : ∀ d, CG f0 (.tms a mn mx) d := fun d => cg_of_cb f0 (hb d) rfl
    have ha := ca_of_cg f0 hg rfl
    exact fun d => ⟨ha d, hb d, hc d, hg d⟩
end

/-! ### a constraint -/
def pparts : List (Bool × T) → B
  | [] => []
  | [(n, t)] => (if n then [33] else []) ++ pn t
  | (n, t) :: r => (if n then [33] else []) ++ (pn t ++ 38 :: pparts r)
def nsts (l : List (Bool × T)) : Nat := l.foldr (fun x n => max (nst x.2) n) 0
theorem bangs_okh {c : UInt8} (h : okh c = true) (b : Bool) (l : B) (p : Nat) : bangs b (c :: l) p = (b, c :: l, p) := by
  have : c ≠ 33 := okh_ne h (by decide)
  unfold bangs
  split
  · rename_i h'; injection h' with h1 _; exact absurd h1 this
  · rfl
theorem bangs_pn (n : Bool) (t : T) (ht : t.Ok) (rest : B) (p : Nat) : bangs false ((if n then [33] else []) ++ (pn t ++ rest)) p = (n, pn t ++ rest, p + (if n then [33] else [] : B).length) := by
  obtain ⟨c, u, e, h⟩ := pn_head t ht
  rw [e]
  cases n
  · exact bangs_okh h _ _ _
  · show bangs (!false) ((c :: u) ++ rest) (p + 1) = _
    exact bangs_okh h _ _ _
theorem pat_pn (f0 : Nat) (hf : 520 ≤ f0) (d : Nat) (t : T) (ht : t.Ok) (rest : B) (hr : rest = [] ∨ ∃ r, rest = 38 :: r) (p : Nat) (h0 : (pn t ++ rest).length < f0) :
    Goes (nst t) d (pat f0 (grp f0 d) (pn t ++ rest) p) (· = .ok t rest (p + (pn t).length)) := by
  obtain ⟨_, _, _, g⟩ := all_of f0 hf t ht d
  have htl : tl rest := by rcases hr with rfl | ⟨r, rfl⟩ <;> rfl
  have H := g f0 rest p htl h0 h0
  unfold pat
  refine ⟨fun hd => ?_, H.2⟩
  obtain ⟨F', h1, h2⟩ := H.1 hd
  rw [h2]
  refine pts_stop _ _ _ _ _ _ ?_ (by omega)
  rcases hr with rfl | ⟨r, rfl⟩ <;> rfl
theorem cons_back (f0 : Nat) (hf : 520 ≤ f0) (d : Nat) (l : List (Bool × T)) : ∀ (f : Nat) (acc : List (Bool × T)) (p : Nat), l ≠ [] → (∀ x ∈ l, x.2.Ok) → acc.length + l.length ≤ 20 → (pparts l).length < f0 → (pparts l).length < f →
    Goes (nsts l) d (cons f0 d f acc (pparts l) p) (· = .ok (acc ++ l) [] (p + (pparts l).length)) := by
  induction l with
  | nil => intro f acc p h; exact absurd rfl h
  | cons x r ih =>
    intro f acc p _ hok hlen h0 hF
    obtain ⟨n, t⟩ := x
    rcases f with _ | f
    · omega
    have ht : t.Ok := hok (n, t) (by simp)
    rcases r with _ | ⟨y, r⟩
    · have e : pparts [(n, t)] = (if n then [33] else []) ++ (pn t ++ []) := by unfold pparts; rw [List.append_nil]
      have en : nsts [(n, t)] = nst t := by unfold nsts; simp
      rw [e] at h0 hF ⊢
      rw [en]
      have H := pat_pn f0 hf d t ht [] (.inl rfl) (p + (if n then [33] else [] : B).length) (by simp only [List.length_append] at h0 ⊢; omega)
      rw [cons]
      simp only [bangs_pn n t ht]
      refine ⟨fun hd => ?_, fun hd => ?_⟩
      · rw [H.1 hd]
        simp only [R.bnd, if_true, List.length_append, List.append_nil, List.length_nil, Nat.add_assoc]
      · obtain ⟨q, hq⟩ := H.2 hd
        rw [hq]
        exact ⟨q, rfl⟩
    · have e : pparts ((n, t) :: y :: r) = (if n then [33] else []) ++ (pn t ++ 38 :: pparts (y :: r)) := rfl
      have en : nsts ((n, t) :: y :: r) = max (nst t) (nsts (y :: r)) := rfl
      rw [e] at h0 hF ⊢
      rw [en]
      simp only [List.length_append, List.length_cons] at h0 hF hlen
      have H := pat_pn f0 hf d t ht (38 :: pparts (y :: r)) (.inr ⟨_, rfl⟩) (p + (if n then [33] else [] : B).length) (by simp only [List.length_append, List.length_cons]; omega)
      have H2 := ih f (acc ++ [(n, t)]) (p + (if n then [33] else [] : B).length + (pn t).length + 1) (by simp) (fun x hx => hok x (List.mem_cons_of_mem _ hx)) (by simp only [List.length_append, List.length_cons, List.length_nil]; omega) (by omega) (by omega)
      rw [cons]
      simp only [bangs_pn n t ht]
      by_cases hd : nst t ≤ d
      · rw [H.1 hd]
        simp only [R.bnd]
        rw [if_neg (by simp), show nx 38 (38 :: pparts (y :: r)) = true from rfl, if_pos rfl, if_neg (by omega), List.drop_succ_cons, List.drop_zero]
        refine ⟨fun hd' => ?_, fun hd' => ?_⟩
        · rw [H2.1 (by omega)]
          simp only [List.append_assoc, List.cons_append, List.nil_append, List.length_append, List.length_cons]
          congr 1
          omega
        · exact H2.2 (by omega)
      · refine ⟨fun hd' => absurd hd' (by omega), fun _ => ?_⟩
        obtain ⟨q, hq⟩ := H.2 (by omega)
        rw [hq]
        exact ⟨q, rfl⟩
/-- Two rows of trees with one print are one. -/
theorem pparts_inj {l m : List (Bool × T)} (hl : l ≠ []) (hm : m ≠ []) (hlk : ∀ x ∈ l, x.2.Ok) (hmk : ∀ x ∈ m, x.2.Ok) (ll : l.length ≤ 20) (lm : m.length ≤ 20) (h : pparts l = pparts m) : l = m := by
  have e : ∀ k : List (Bool × T), k ≠ [] → (∀ x ∈ k, x.2.Ok) → k.length ≤ 20 → ∀ F, (pparts k).length + 520 ≤ F → ∀ d, nsts k ≤ d → cons F d F [] (pparts k) 0 = .ok k [] (0 + (pparts k).length) := by
    intro k h1 h2 h3 F hF d hd
    exact (cons_back F (by omega) d k F [] 0 h1 h2 (by simpa using h3) (by omega) (by omega)).1 hd
  have h1 := e l hl hlk ll ((pparts l).length + 520) (Nat.le_refl _) (max (nsts l) (nsts m)) (by omega)
  have h2 := e m hm hmk lm ((pparts l).length + 520) (by rw [h]; exact Nat.le_refl _) (max (nsts l) (nsts m)) (by omega)
  rw [h] at h1 h2
  rw [h2] at h1
  injection h1 with h1 _ _
  exact h1.symm
end Tr
end Go.Proofs.YtebkaajnnjfhjaaDoor
