/-
  What is wrong is wrong for one of two reasons, at a place of the text. No program in sight.
-/
import Derived.Test.YtebkaajnnjfhjaaDoorRxD
namespace Go.Proofs.YtebkaajnnjfhjaaDoor
set_option linter.unusedVariables false
set_option linter.unusedSimpArgs false
namespace Tr

def Fin (L N : Nat) {α : Type} (r : R α) : Prop := match r with
  | .ok _ l p => p + l.length = L ∧ l.length ≤ N
  | .no q x => (x = 8 ∨ x = 3) ∧ q ≤ L
theorem fin_bnd {α β : Type} {L N M : Nat} {r : R α} {f : α → B → Nat → R β} (h : Fin L N r) (hf : ∀ v l p, p + l.length = L → l.length ≤ N → Fin L M (f v l p)) : Fin L M (r.bnd f) := by
  cases r with
  | ok v l p => exact hf v l p h.1 h.2
  | no q x => exact h
theorem Fin.le {α : Type} {L N M : Nat} {r : R α} (h : Fin L N r) (hn : N ≤ M) : Fin L M r := by
  cases r with
  | ok v l p => exact ⟨h.1, Nat.le_trans h.2 hn⟩
  | no q x => exact h
theorem fin_ite {α : Type} {L N : Nat} {c : Prop} [Decidable c] {a b : R α} (ha : c → Fin L N a) (hb : ¬ c → Fin L N b) : Fin L N (if c then a else b) := by
  by_cases h : c
  · rw [if_pos h]; exact ha h
  · rw [if_neg h]; exact hb h
theorem drop1 {x : UInt8} {l : B} {L p : Nat} (h : nx x l = true) (hl : p + l.length = L) : (p + 1) + (l.drop 1).length = L ∧ (l.drop 1).length + 1 = l.length := by
  obtain ⟨t, rfl⟩ := nx_cons h
  have h1 : p + (t.length + 1) = L := hl
  exact ⟨show p + 1 + t.length = L by omega, rfl⟩
theorem esc_fin (place : Nat) (of l : B) (p L : Nat) (hp : place ≤ L) (hl : p + l.length = L) : Fin L (l.length - 1) (esc place of l p) := by
  rcases l with _ | ⟨c, t⟩
  · exact ⟨.inl rfl, hp⟩
  · unfold esc
    simp only [List.length_cons] at hl
    refine fin_ite (fun _ => ⟨by omega, by simp⟩) fun _ => ?_
    cases hh : hx2 (c :: t) with
    | none => exact ⟨.inl rfl, hp⟩
    | some x =>
      have := hx2_len hh
      simp only [List.length_cons] at this
      exact ⟨by rw [List.length_drop]; omega, by rw [List.length_drop]; simp⟩
theorem item_fin (l : B) (p L : Nat) (hl : p + l.length = L) : Fin L (l.length - 1) (item l p) := by
  rcases l with _ | ⟨c, t⟩
  · exact ⟨.inl rfl, by simp at hl; omega⟩
  · unfold item
    simp only [List.length_cons] at hl
    refine fin_ite (fun _ => (esc_fin p inside t (p + 1) L (by omega) (by omega)).le (by simp)) fun _ => fin_ite (fun _ => ⟨.inl rfl, by omega⟩) fun _ => ⟨by omega, by simp⟩
theorem cls_fin (f : Nat) : ∀ (s : W4) (l : B) (p L : Nat), l.length < f → p + l.length = L → Fin L (l.length - 1) (cls f s l p) := by
  induction f with
  | zero => intro s l p L h; omega
  | succ f ih =>
    intro s l p L h hl
    rw [cls]
    refine fin_ite (fun h1 => ?_) fun _ => ?_
    · obtain ⟨a, b⟩ := drop1 h1 hl
      exact ⟨a, by omega⟩
    · cases l with
      | nil => exact ⟨.inl rfl, by simp at hl; omega⟩
      | cons c t =>
        simp only [List.length_cons] at h hl
        refine fin_bnd (item_fin (c :: t) p L hl) fun a l1 p1 h1 h2 => ?_
        simp only [List.length_cons] at h2
        refine fin_ite (fun h3 => ?_) fun _ => (ih _ _ _ _ (by omega) h1).le (by simp only [List.length_cons]; omega)
        obtain ⟨d1, d2⟩ := drop1 h3 h1
        refine fin_bnd (item_fin _ _ L d1) fun b l2 p2 h4 h5 => fin_ite (fun _ => ⟨.inl rfl, by omega⟩) fun _ => (ih _ _ _ _ (by omega) h4).le (by simp only [List.length_cons]; omega)
theorem klass_fin (f : Nat) (l : B) (p L : Nat) (hf : l.length < f) (hl : p + l.length = L) : Fin L l.length (klass f l p) := by
  unfold klass
  refine fin_ite (fun h1 => ?_) fun _ => (cls_fin f _ _ _ _ hf hl).le (by omega)
  obtain ⟨d1, d2⟩ := drop1 h1 hl
  exact fin_bnd (cls_fin f _ _ _ _ (by omega) d1) fun s l1 p1 h2 h3 => ⟨h2, by omega⟩
def FinG (f0 : Nat) (g : Nat → B → Nat → R T) : Prop := ∀ q l p L, q ≤ L → p + l.length = L → l.length < f0 → Fin L l.length (g q l p)
theorem atm_fin {f0 : Nat} {g : Nat → B → Nat → R T} (hg : FinG f0 g) (c : UInt8) (l : B) (p L : Nat) (hf : l.length < f0) (hl : p + 1 + l.length = L) : Fin L l.length (atm f0 g c l p) := by
  unfold atm
  refine fin_ite (fun _ => hg _ _ _ _ (by omega) hl hf) fun _ => fin_ite (fun _ => ⟨hl, Nat.le_refl _⟩) fun _ => fin_ite (fun _ => fin_bnd (klass_fin f0 l (p + 1) L hf hl) fun s l1 p1 h1 h2 => ⟨h1, h2⟩) fun _ => fin_ite (fun _ => fin_bnd (esc_fin p marks l (p + 1) L (by omega) hl) fun x l1 p1 h1 h2 => ⟨h1, by omega⟩) fun _ => fin_ite (fun _ => ⟨.inl rfl, by omega⟩) fun _ => ⟨hl, Nat.le_refl _⟩
theorem digit_fin (l : B) (p L : Nat) (hl : p + l.length = L) : Fin L (l.length - 1) (digit l p) := by
  rcases l with _ | ⟨c, t⟩
  · exact ⟨.inl rfl, by simp at hl; omega⟩
  · simp only [List.length_cons] at hl
    unfold digit
    exact fin_ite (fun _ => ⟨by omega, by simp⟩) fun _ => ⟨.inl rfl, by omega⟩
theorem brace_fin (mn mx : Int) (l : B) (p L : Nat) (hl : p + l.length = L) : Fin L l.length (brace mn mx l p) := by
  unfold brace
  refine fin_ite (fun h1 => ?_) fun _ => ⟨.inl rfl, by omega⟩
  obtain ⟨d1, d2⟩ := drop1 h1 hl
  exact ⟨d1, by omega⟩
theorem tim_fin (l : B) (p L : Nat) (hl : p + l.length = L) : Fin L l.length (tim l p) := by
  unfold tim
  have key : ∀ x (m : Option (Int × Int)), nx x l = true → Fin L l.length (.ok m (l.drop 1) (p + 1)) := fun x m h1 => by
    obtain ⟨d1, d2⟩ := drop1 h1 hl
    exact ⟨d1, by omega⟩
  refine fin_ite (fun h1 => key _ _ h1) fun _ => fin_ite (fun h1 => key _ _ h1) fun _ => fin_ite (fun h1 => key _ _ h1) fun _ => fin_ite (fun h1 => ?_) fun _ => ⟨hl, Nat.le_refl _⟩
  obtain ⟨d1, d2⟩ := drop1 h1 hl
  refine fin_bnd (digit_fin _ _ L d1) fun mn l1 p1 h2 h3 => fin_ite (fun h4 => ?_) fun _ => (brace_fin _ _ _ _ L h2).le (by omega)
  obtain ⟨d3, d4⟩ := drop1 h4 h2
  exact fin_bnd (digit_fin _ _ L d3) fun mx l2 p2 h5 h6 => fin_ite (fun _ => ⟨.inl rfl, by omega⟩) fun _ => (brace_fin _ _ _ _ L h5).le (by omega)
theorem bra_fin {f0 : Nat} {g : Nat → B → Nat → R T} (hg : FinG f0 g) (f : Nat) : ∀ (acc : Option T) (l : B) (p L : Nat), l.length < f → l.length < f0 → p + l.length = L → Fin L l.length (bra f0 g f acc l p) := by
  induction f with
  | zero => intro acc l p L h; omega
  | succ f ih =>
    intro acc l p L h h0 hl
    cases hs : stops l
    case true =>
      rw [bra_stop' hs]
      exact ⟨hl, Nat.le_refl _⟩
    case false =>
      rcases l with _ | ⟨c, t⟩
      · cases hs
      · rw [bra_go hs]
        simp only [List.length_cons] at h h0 hl
        refine fin_bnd (atm_fin hg c t p L (by omega) (by omega)) fun x l1 p1 h1 h2 => fin_bnd (tim_fin l1 p1 L h1) fun m l2 p2 h3 h4 => (ih _ _ _ _ (by omega) (by omega) h3).le (by simp only [List.length_cons]; omega)
theorem pts_fin {f0 : Nat} {g : Nat → B → Nat → R T} (hg : FinG f0 g) (f : Nat) : ∀ (acc : T) (l : B) (p L : Nat), l.length < f → l.length < f0 → p + l.length = L → Fin L l.length (pts f0 g f acc l p) := by
  induction f with
  | zero => intro acc l p L h; omega
  | succ f ih =>
    intro acc l p L h h0 hl
    rw [pts]
    refine fin_ite (fun h1 => ?_) fun _ => ⟨hl, Nat.le_refl _⟩
    obtain ⟨d1, d2⟩ := drop1 h1 hl
    exact fin_bnd (bra_fin hg f0 none _ _ L (by omega) (by omega) d1) fun x l1 p1 h2 h3 => (ih _ _ _ _ (by omega) (by omega) h2).le (by omega)
theorem pat_fin {f0 : Nat} {g : Nat → B → Nat → R T} (hg : FinG f0 g) (l : B) (p L : Nat) (h0 : l.length < f0) (hl : p + l.length = L) : Fin L l.length (pat f0 g l p) := by
  unfold pat
  exact fin_bnd (bra_fin hg f0 none _ _ L h0 h0 hl) fun x l1 p1 h1 h2 => (pts_fin hg f0 _ _ _ L (by omega) (by omega) h1).le h2
theorem grp_fin (f0 d : Nat) : FinG f0 (grp f0 d) := by
  induction d with
  | zero => intro q l p L hq hl h0; rw [grp]; exact ⟨.inr rfl, hq⟩
  | succ d ih =>
    intro q l p L hq hl h0
    rw [grp]
    refine fin_bnd (pat_fin ih l p L h0 hl) fun x l1 p1 h1 h2 => fin_ite (fun h3 => ?_) fun _ => ⟨.inl rfl, by omega⟩
    obtain ⟨d1, d2⟩ := drop1 h3 h1
    exact ⟨d1, by omega⟩
theorem bangs_fin (l : B) : ∀ (b : Bool) (p : Nat), (bangs b l p).2.2 + (bangs b l p).2.1.length = p + l.length ∧ (bangs b l p).2.1.length ≤ l.length := by
  induction l with
  | nil => intro b p; exact ⟨rfl, Nat.le_refl _⟩
  | cons c t ih =>
    intro b p
    by_cases h : nx 33 (c :: t) = true
    · obtain ⟨t', e⟩ := nx_cons h
      injection e with e1 e2
      subst e1 e2
      have := ih (!b) (p + 1)
      have e : bangs b (33 :: t) p = bangs (!b) t (p + 1) := rfl
      rw [e]
      simp only [List.length_cons]
      omega
    · rw [bangs_stop (by simpa using h)]
      exact ⟨rfl, Nat.le_refl _⟩
theorem cons_fin (f0 d f : Nat) : ∀ (acc : List (Bool × T)) (l : B) (p L : Nat), l.length < f → l.length < f0 → p + l.length = L → Fin L l.length (cons f0 d f acc l p) := by
  induction f with
  | zero => intro acc l p L h; omega
  | succ f ih =>
    intro acc l p L h h0 hl
    rw [cons]
    obtain ⟨b1, b2⟩ := bangs_fin l false p
    refine fin_bnd (pat_fin (grp_fin f0 d) _ _ L (by omega) (by omega)) fun t l1 p1 h1 h2 => fin_ite (fun _ => ⟨h1, by omega⟩) fun _ => fin_ite (fun h3 => ?_) fun _ => ⟨.inl rfl, by omega⟩
    obtain ⟨d1, d2⟩ := drop1 h3 h1
    exact fin_ite (fun _ => ⟨.inr rfl, by omega⟩) fun _ => (ih _ _ _ _ (by omega) (by omega) d1).le (by omega)
theorem rparse_fin (l : B) (hl : l.length ≤ 300) : match rparse 600 l with
    | .ok L _ _ => True
    | .no q x => (x = 8 ∨ x = 3) ∧ (l.length ≤ 200 → q ≤ l.length) := by
  unfold rparse
  by_cases h : 200 < l.length
  · rw [if_pos h]; exact ⟨.inr rfl, fun h' => by omega⟩
  · rw [if_neg h]
    have := cons_fin 600 16 600 [] l 0 l.length (by omega) (by omega) (by omega)
    cases hc : cons 600 16 600 [] l 0 with
    | ok L r p =>
      simp only [R.bnd]
      by_cases h6 : 63 < places (ndsL 0 L) (ptsL 0 L)
      · rw [if_pos h6]; exact ⟨.inr rfl, fun _ => Nat.le_refl _⟩
      · rw [if_neg h6]; trivial
    | no q x =>
      rw [hc] at this
      exact ⟨this.1, fun _ => this.2⟩
end Tr
end Go.Proofs.YtebkaajnnjfhjaaDoor
namespace Go.Proofs.YtebkaajnnjfhjaaDoor
set_option linter.unusedVariables false
set_option linter.unusedSimpArgs false
namespace Tr

theorem nsts_eq (L : List (Bool × T)) : True := trivial
theorem places_read {L : List (Bool × T)} (hok : ∀ x ∈ L, x.2.Ok) (h1 : 1 ≤ L.length) (h2 : L.length ≤ 20) (h6 : szL L ≤ 600) : right (ndsL 0 L) (ptsL 0 L) = true ∧ places (ndsL 0 L) (ptsL 0 L) = plcs 0 L := by
  have hr := (right_iff _ _).2 (read_good hok h1 h2 h6)
  refine ⟨hr, ?_⟩
  unfold places
  rw [hr, if_pos rfl, trees_read]
/-- A print read. -/
theorem back {L : List (Bool × T)} (hok : ∀ x ∈ L, x.2.Ok) (h1 : 1 ≤ L.length) (h2 : L.length ≤ 20) (h6 : szL L ≤ 600) :
    (200 < (pparts L).length → rparse 600 (pparts L) = .no 200 3) ∧
    ((pparts L).length ≤ 200 → 16 < nsts L → ∃ q, rparse 600 (pparts L) = .no q 3) ∧
    ((pparts L).length ≤ 200 → nsts L ≤ 16 → 63 < plcs 0 L → rparse 600 (pparts L) = .no (pparts L).length 3) ∧
    ((pparts L).length ≤ 200 → nsts L ≤ 16 → plcs 0 L ≤ 63 → ∃ p, rparse 600 (pparts L) = .ok L [] p) := by
  have hne : L ≠ [] := by rintro rfl; simp at h1
  have hp := (places_read hok h1 h2 h6).2
  refine ⟨fun h => if_pos h, fun h => ?_, fun h => ?_, fun h => ?_⟩
  all_goals
    have hc := cons_back 600 (by decide) 16 L 600 [] 0 hne hok (by simpa using h2) (by omega) (by omega)
    intro hn
    unfold rparse
    rw [if_neg (by omega)]
  · obtain ⟨q, hq⟩ := hc.2 hn
    exact ⟨q, by rw [hq]; rfl⟩
  · intro h63
    rw [hc.1 hn]
    show (if 63 < places (ndsL 0 L) (ptsL 0 L) then _ else _) = _
    rw [hp, if_pos h63]
  · intro h63
    rw [hc.1 hn]
    refine ⟨0 + (pparts L).length, ?_⟩
    show (if 63 < places (ndsL 0 L) (ptsL 0 L) then _ else _) = _
    rw [hp, if_neg (by omega)]
    rfl
/-- What a reading that came to a tree says. -/
theorem rparse_is {l : B} {L : List (Bool × T)} {r : B} {p : Nat} (h : rparse 600 l = .ok L r p) : l.length ≤ 200 ∧ (∀ x ∈ L, x.2.Ok) ∧ 1 ≤ L.length ∧ L.length ≤ 20 ∧ places (ndsL 0 L) (ptsL 0 L) ≤ 63 := by
  unfold rparse at h
  by_cases h2 : 200 < l.length
  · rw [if_pos h2] at h; cases h
  · rw [if_neg h2] at h
    have := cons_ok 600 16 600 [] l 0 (by decide) (by simp)
    cases hc : cons 600 16 600 [] l 0 with
    | no q x => rw [hc] at h; cases h
    | ok L' r' p' =>
      rw [hc] at h this
      simp only [R.bnd] at h
      by_cases h6 : 63 < places (ndsL 0 L') (ptsL 0 L')
      · rw [if_pos h6] at h; cases h
      · rw [if_neg h6] at h
        injection h with h _ _
        rw [← h]; exact ⟨by omega, this.1, this.2.1, this.2.2, by omega⟩
/-- A right tree's trees have as many nodes as it. -/
theorem szL_trees {ns : List Nd} {ps : List Pt} (h : Good ns ps) : szL (trees ns ps) = ns.length := by
  have hd : Dn ns := h.dn
  have hF : ∀ r ∈ ps.map Pt.root, 0 ≤ r ∧ r < (ns.length : Int) := fun r hr => by
    obtain ⟨p, hp, rfl⟩ := List.mem_map.1 hr
    exact h.rt p hp
  have h1 : ∀ qs : List Pt, (∀ p ∈ qs, 0 ≤ p.root ∧ p.root < (ns.length : Int)) → szL (trees ns qs) = (visAll ns (ns.length + 1) (qs.map Pt.root)).length := by
    intro qs
    induction qs with
    | nil => intro _; rfl
    | cons p qs ih =>
      intro hq
      have hr := hq p (by simp)
      have e : szL (trees ns (p :: qs)) = sz (tr ns p.root.toNat) + szL (trees ns qs) := rfl
      have e2 : visAll ns (ns.length + 1) ((p :: qs).map Pt.root) = vis ns (ns.length + 1) p.root.toNat ++ visAll ns (ns.length + 1) (qs.map Pt.root) := rfl
      rw [e, e2, List.length_append, ih (fun q hq' => hq q (List.mem_cons_of_mem _ hq'))]
      congr 1
      have : tr ns p.root.toNat = tof ns (ns.length + 1) p.root.toNat := tof_any hd _ _ _ (by omega) (by omega)
      rw [this, sz_tof ns (ns.length + 1) p.root.toNat h.my (by omega) hd (by omega)]
  rw [h1 ps h.rt]
  have hv := vis_of_used (ns := ns) (rs := ps.map Pt.root) (ns.length + 1) hd hF (by omega) h.us
  have hlt : ∀ i ∈ visAll ns (ns.length + 1) (ps.map Pt.root), i < ns.length := by
    intro i hi
    obtain ⟨r, hr, hi⟩ := List.mem_flatMap.1 hi
    have := hF r hr
    have := vis_lt ns (ns.length + 1) r.toNat (by omega) (hd.on _) i hi
    omega
  have := (perm_range hv hlt).length_eq
  rw [this, List.length_range]
end Tr
end Go.Proofs.YtebkaajnnjfhjaaDoor
