/-
  What a rule derives does not hang on the row of the rules: no program in sight.
-/
import Derived.Test.YtckcgiimeaklcaaDoorEv
import Derived.Test.YtckcgiimeaklcaaDoorAok
import Derived.Test.YtckcgiimeaklcaaDoorMp
namespace Go.Proofs.YtckcgiimeaklcaaDoor
set_option linter.unusedVariables false
set_option linter.unusedSimpArgs false
namespace Ab
/-- The tree of a rule. -/
def env : Rs → B → Option T
  | [], _ => none
  | r :: t, b => if r.1 = b then some r.2 else env t b
def OneT (e : B → Option T) (w : B) (X : T → Nat → Nat → Prop) (t : T) (i j : Nat) : Prop :=
  match t with
  | .txt s => LitAt w s i ∧ j = i + s.length
  | .spn a b => SpnAt w a b i ∧ j = i + 1
  | .nam b => ∃ t', e b = some t' ∧ X t' i j
  | .both a b => ∃ m, X a i m ∧ X b m j
  | .eith a b => X a i j ∨ X b i j
  | .oft a lo hi => Ofts (X a) lo hi i j
def D (e : B → Option T) (w : B) (t : T) (i j : Nat) : Prop := ∀ X : T → Nat → Nat → Prop, (∀ t i j, OneT e w X t i j → X t i j) → X t i j
theorem OneT.mono {e : B → Option T} {w : B} {X Y : T → Nat → Nat → Prop} (h : ∀ t i j, X t i j → Y t i j) {t : T} {i j : Nat} (o : OneT e w X t i j) : OneT e w Y t i j := by
  cases t with
  | txt s => exact o
  | spn a b => exact o
  | nam b => obtain ⟨t', h1, h2⟩ := o; exact ⟨t', h1, h _ _ _ h2⟩
  | both a b => obtain ⟨m, h1, h2⟩ := o; exact ⟨m, h _ _ _ h1, h _ _ _ h2⟩
  | eith a b => exact o.imp (h _ _ _) (h _ _ _)
  | oft a lo hi => exact Ofts.mono (h _) o
theorem D_closed {e : B → Option T} {w : B} {t : T} {i j : Nat} (h : OneT e w (D e w) t i j) : D e w t i j := fun X hX => hX _ _ _ (h.mono fun t i j hd => hd X hX)
/-- From one set of rules to another one. -/
theorem D_env {e e' : B → Option T} {w : B} (P : T → Prop) (hb : ∀ a b, P (.both a b) → P a ∧ P b) (he : ∀ a b, P (.eith a b) → P a ∧ P b) (ho : ∀ a lo hi, P (.oft a lo hi) → P a) (hn : ∀ b t, P (.nam b) → e b = some t → e' b = some t ∧ P t)
    {t : T} {i j : Nat} (h : D e w t i j) (hP : P t) : D e' w t i j := by
  refine h (fun t i j => P t → D e' w t i j) (fun t i j o hP => D_closed ?_) hP
  cases t with
  | txt s => exact o
  | spn a b => exact o
  | nam b =>
    obtain ⟨t', h1, h2⟩ := o
    obtain ⟨h3, h4⟩ := hn b t' hP h1
    exact ⟨t', h3, h2 h4⟩
  | both a b => obtain ⟨m, h1, h2⟩ := o; exact ⟨m, h1 (hb a b hP).1, h2 (hb a b hP).2⟩
  | eith a b => exact o.imp (fun h => h (he a b hP).1) (fun h => h (he a b hP).2)
  | oft a lo hi => exact Ofts.mono (fun i j h => h (ho a lo hi hP)) o
/-- Tree t lies in es from number n on. -/
def Sits (es : List El) (n : Nat) (t : T) : Prop := ∀ i, i < sz t → es[n + i]? = (post n t)[i]?
theorem sits_two {es : List El} {n : Nat} {a b : T} {x : El} {t : T} (hs : sz t = sz a + sz b + 1) (hp : post n t = post n a ++ post (n + sz a) b ++ [x]) (h : Sits es n t) : Sits es n a ∧ Sits es (n + sz a) b ∧ es[n + sz t - 1]? = some x := by
  refine ⟨fun i hi => ?_, fun i hi => ?_, ?_⟩
  · rw [h i (by omega), hp, List.append_assoc, List.getElem?_append_left (by rw [post_len]; exact hi)]
  · have := h (sz a + i) (by omega)
    rw [← Nat.add_assoc] at this
    rw [this, hp, List.append_assoc, List.getElem?_append_right (by rw [post_len]; omega), post_len, Nat.add_sub_cancel_left, List.getElem?_append_left (by rw [post_len]; exact hi)]
  · have := h (sz a + sz b) (by omega)
    rw [show n + sz t - 1 = n + (sz a + sz b) by omega, this, hp, List.getElem?_append_right (by rw [List.length_append, post_len, post_len]; omega), List.length_append, post_len, post_len, Nat.sub_self]
    rfl
theorem sits_one {es : List El} {n : Nat} {a : T} {x : El} {t : T} (hs : sz t = sz a + 1) (hp : post n t = post n a ++ [x]) (h : Sits es n t) : Sits es n a ∧ es[n + sz t - 1]? = some x := by
  refine ⟨fun i hi => ?_, ?_⟩
  · rw [h i (by omega), hp, List.getElem?_append_left (by rw [post_len]; exact hi)]
  · have := h (sz a) (by omega)
    rw [show n + sz t - 1 = n + sz a by omega, this, hp, List.getElem?_append_right (by rw [post_len]; omega), post_len, Nat.sub_self]
    rfl
theorem sits_leaf {es : List El} {n : Nat} {x : El} {t : T} (hs : sz t = 1) (hp : post n t = [x]) (h : Sits es n t) : es[n + sz t - 1]? = some x := by
  have := h 0 (by omega)
  rw [show n + sz t - 1 = n + 0 by omega, this, hp]
  rfl
theorem els_at : ∀ (rs : Rs) (m : Nat) (pre : List El) (b : B), pre.length = m → (∀ k, root m rs b = some k → ∃ t n, env rs b = some t ∧ k = rootI n t ∧ Sits (pre ++ els m rs) n t) ∧ (∀ t, env rs b = some t → ∃ n, root m rs b = some (rootI n t) ∧ Sits (pre ++ els m rs) n t)
  | [], m, pre, b, hm => ⟨fun k h => absurd h (by simp [root]), fun t h => absurd h (by simp [env])⟩
  | r :: rs, m, pre, b, hm => by
    have ih := els_at rs (m + sz r.2) (pre ++ post m r.2) b (by rw [List.length_append, post_len, hm])
    have he : pre ++ els m (r :: rs) = (pre ++ post m r.2) ++ els (m + sz r.2) rs := by simp [els]
    have hs : Sits (pre ++ els m (r :: rs)) m r.2 := fun i hi => by
      rw [he, List.append_assoc, List.getElem?_append_right (by omega), hm, Nat.add_sub_cancel_left, List.getElem?_append_left (by rw [post_len]; exact hi)]
    by_cases hb : r.1 = b
    · refine ⟨fun k h => ?_, fun t h => ?_⟩
      · simp only [root, if_pos hb] at h
        cases h
        exact ⟨r.2, m, by simp [env, hb], rfl, hs⟩
      · simp only [env, if_pos hb] at h
        cases h
        exact ⟨m, by simp [root, hb], hs⟩
    · rw [he]
      refine ⟨fun k h => ?_, fun t h => ?_⟩
      · simp only [root, if_neg hb] at h
        obtain ⟨t, n, h1, h2, h3⟩ := ih.1 k h
        exact ⟨t, n, by simp only [env, if_neg hb]; exact h1, h2, h3⟩
      · simp only [env, if_neg hb] at h
        obtain ⟨n, h1, h2⟩ := ih.2 t h
        exact ⟨n, by simp only [root, if_neg hb]; exact h1, h2⟩
theorem rt_env {rs : Rs} {b : B} : (∀ k, rt rs b = some k → ∃ t n, env rs b = some t ∧ k = n + sz t - 1 ∧ Sits (els 0 rs) n t) ∧ (∀ t, env rs b = some t → ∃ n, rt rs b = some (n + sz t - 1) ∧ Sits (els 0 rs) n t) := by
  obtain ⟨h1, h2⟩ := els_at rs 0 [] b rfl
  refine ⟨fun k h => ?_, fun t h => ?_⟩
  · unfold rt at h
    obtain ⟨z, hz, rfl⟩ := Option.map_eq_some_iff.1 h
    obtain ⟨t, n, h3, h4, h5⟩ := h1 z hz
    refine ⟨t, n, h3, ?_, h5⟩
    rw [h4, rootI_nat]
    rfl
  · obtain ⟨n, h3, h4⟩ := h2 t h
    refine ⟨n, ?_, h4⟩
    unfold rt
    rw [h3, rootI_nat]
    rfl
theorem rI (n : Nat) (t : T) : (rootI n t).toNat = n + sz t - 1 := by rw [rootI_nat]; rfl
theorem D_of_E {rs : Rs} {w : B} {k i j : Nat} (h : E (els 0 rs) (rt rs) w k i j) : ∀ n t, Sits (els 0 rs) n t → k = n + sz t - 1 → D (env rs) w t i j := by
  refine h (fun k i j => ∀ n t, Sits (els 0 rs) n t → k = n + sz t - 1 → D (env rs) w t i j) (fun k i j o n t hs hk => D_closed ?_)
  subst hk
  cases t with
  | txt s =>
    have hx := sits_leaf rfl rfl hs
    rw [one_iff hx] at o
    simp at o
    exact o
  | spn a b =>
    have hx := sits_leaf rfl rfl hs
    rw [one_iff hx] at o
    simp at o
    exact o
  | nam b =>
    have hx := sits_leaf rfl rfl hs
    rw [one_iff hx] at o
    simp at o
    obtain ⟨r, h1, h2⟩ := o
    obtain ⟨t', n', h3, h4, h5⟩ := rt_env.1 r h1
    exact ⟨t', h3, h2 n' t' h5 h4⟩
  | both a b =>
    obtain ⟨s1, s2, hx⟩ := sits_two rfl rfl hs
    rw [one_iff hx] at o
    simp [rI] at o
    obtain ⟨m, h1, h2⟩ := o
    exact ⟨m, h1 n a s1 rfl, h2 _ b s2 rfl⟩
  | eith a b =>
    obtain ⟨s1, s2, hx⟩ := sits_two rfl rfl hs
    rw [one_iff hx] at o
    simp [rI] at o
    exact o.imp (fun h => h n a s1 rfl) (fun h => h _ b s2 rfl)
  | oft a lo hi =>
    obtain ⟨s1, hx⟩ := sits_one rfl rfl hs
    rw [one_iff hx] at o
    simp [rI] at o
    exact Ofts.mono (fun i j h => h n a s1 rfl) o
theorem E_of_D {rs : Rs} {w : B} {t : T} {i j : Nat} (h : D (env rs) w t i j) : ∀ n, Sits (els 0 rs) n t → E (els 0 rs) (rt rs) w (n + sz t - 1) i j := by
  refine h (fun t i j => ∀ n, Sits (els 0 rs) n t → E (els 0 rs) (rt rs) w (n + sz t - 1) i j) (fun t i j o n hs => E_closed _ _ _ ?_)
  cases t with
  | txt s =>
    have hx := sits_leaf rfl rfl hs
    rw [one_iff hx]
    exact .inl ⟨rfl, o⟩
  | spn a b =>
    have hx := sits_leaf rfl rfl hs
    rw [one_iff hx]
    exact .inr (.inl ⟨rfl, o⟩)
  | nam b =>
    have hx := sits_leaf rfl rfl hs
    rw [one_iff hx]
    obtain ⟨t', h1, h2⟩ := o
    obtain ⟨n', h3, h4⟩ := rt_env.2 t' h1
    exact .inr (.inr (.inl ⟨rfl, _, h3, h2 n' h4⟩))
  | both a b =>
    obtain ⟨s1, s2, hx⟩ := sits_two rfl rfl hs
    rw [one_iff hx]
    obtain ⟨m, h1, h2⟩ := o
    exact .inr (.inr (.inr (.inl ⟨rfl, m, by rw [rI]; exact h1 n s1, by rw [rI]; exact h2 _ s2⟩)))
  | eith a b =>
    obtain ⟨s1, s2, hx⟩ := sits_two rfl rfl hs
    rw [one_iff hx]
    refine .inr (.inr (.inr (.inr (.inl ⟨rfl, ?_⟩))))
    rw [rI, rI]
    exact o.imp (fun h => h n s1) (fun h => h _ s2)
  | oft a lo hi =>
    obtain ⟨s1, hx⟩ := sits_one rfl rfl hs
    rw [one_iff hx]
    refine .inr (.inr (.inr (.inr (.inr ⟨rfl, ?_⟩))))
    rw [rI]
    exact Ofts.mono (fun i j h => h n s1) o
/-- What a rule derives, by its tree. -/
theorem E_D {rs : Rs} {w b : B} {z : Nat} (hz : root 0 rs b = some (z : Int)) {i j : Nat} : ∃ t, env rs b = some t ∧ (E (els 0 rs) (rt rs) w z i j ↔ D (env rs) w t i j) := by
  have h1 : rt rs b = some z := by unfold rt; rw [hz]; rfl
  obtain ⟨t, n, h2, h3, h4⟩ := rt_env.1 z h1
  subst h3
  exact ⟨t, h2, fun h => D_of_E h n t h4 rfl, fun h => E_of_D h n h4⟩
/-! ### names in trees -/
def Nm : T → B → Prop
  | .txt _, _ => False
  | .spn _ _, _ => False
  | .nam c, b => c = b
  | .both x y, b => Nm x b ∨ Nm y b
  | .eith x y, b => Nm x b ∨ Nm y b
  | .oft x _ _, b => Nm x b
theorem post_nm : ∀ (t : T) (n : Nat) (b : B), (∃ x ∈ post n t, x.k = 2 ∧ x.t = b) ↔ Nm t b
  | .txt _, n, b => by simp [post, Nm]
  | .spn _ _, n, b => by simp [post, Nm]
  | .nam c, n, b => by simp [post, Nm]
  | .both x y, n, b => by
    have h1 := post_nm x n b
    have h2 := post_nm y (n + sz x) b
    simp only [post, Nm, List.mem_append, List.mem_singleton, ← h1, ← h2]
    constructor
    · rintro ⟨z, (hz | hz) | rfl, h3⟩
      · exact .inl ⟨z, hz, h3⟩
      · exact .inr ⟨z, hz, h3⟩
      · exact absurd h3.1 (by simp)
    · rintro (⟨z, hz, h3⟩ | ⟨z, hz, h3⟩)
      · exact ⟨z, .inl (.inl hz), h3⟩
      · exact ⟨z, .inl (.inr hz), h3⟩
  | .eith x y, n, b => by
    have h1 := post_nm x n b
    have h2 := post_nm y (n + sz x) b
    simp only [post, Nm, List.mem_append, List.mem_singleton, ← h1, ← h2]
    constructor
    · rintro ⟨z, (hz | hz) | rfl, h3⟩
      · exact .inl ⟨z, hz, h3⟩
      · exact .inr ⟨z, hz, h3⟩
      · exact absurd h3.1 (by simp)
    · rintro (⟨z, hz, h3⟩ | ⟨z, hz, h3⟩)
      · exact ⟨z, .inl (.inl hz), h3⟩
      · exact ⟨z, .inl (.inr hz), h3⟩
  | .oft x lo hi, n, b => by
    have h1 := post_nm x n b
    simp only [post, Nm, List.mem_append, List.mem_singleton, ← h1]
    constructor
    · rintro ⟨z, hz | rfl, h3⟩
      · exact ⟨z, hz, h3⟩
      · exact absurd h3.1 (by simp)
    · rintro ⟨z, hz, h3⟩
      exact ⟨z, .inl hz, h3⟩
theorem els_nm : ∀ (rs : Rs) (n : Nat) (b : B), (∃ x ∈ els n rs, x.k = 2 ∧ x.t = b) ↔ ∃ r ∈ rs, Nm r.2 b
  | [], n, b => by simp [els]
  | r :: rs, n, b => by
    have h1 := post_nm r.2 n b
    have h2 := els_nm rs (n + sz r.2) b
    simp only [els, List.mem_append, List.mem_cons]
    constructor
    · rintro ⟨x, hx | hx, h3⟩
      · exact ⟨r, .inl rfl, h1.1 ⟨x, hx, h3⟩⟩
      · obtain ⟨q, hq, h4⟩ := h2.1 ⟨x, hx, h3⟩
        exact ⟨q, .inr hq, h4⟩
    · rintro ⟨q, rfl | hq, h4⟩
      · obtain ⟨x, hx, h3⟩ := h1.2 h4
        exact ⟨x, .inl hx, h3⟩
      · obtain ⟨x, hx, h3⟩ := h2.2 ⟨q, hq, h4⟩
        exact ⟨x, .inr hx, h3⟩
/-- All names that stand in rules have rules. -/
def Cl (rs : Rs) : Prop := ∀ r ∈ rs, ∀ b, Nm r.2 b → hasR rs b = true
theorem missing_all (rs : Rs) : ∀ (es : List El) (ls : List Int), (∀ x ∈ es, x.k = 2 → hasR rs x.t = true) → missing rs es ls = none
  | [], _, _ => by unfold missing; rfl
  | x :: t, [], _ => by unfold missing; rfl
  | x :: t, i :: r, h => by
    unfold missing
    rw [if_neg (fun ⟨h1, h2⟩ => by rw [h x (by simp) h1] at h2; cases h2)]
    exact missing_all rs t r (fun y hy => h y (by simp [hy]))
theorem missing_cl {rs : Rs} (h : Cl rs) (ls : List Int) : missing rs (els 0 rs) ls = none := missing_all rs _ _ fun x hx h2 => by
  obtain ⟨r, hr, hn⟩ := (els_nm rs 0 x.t).1 ⟨x, hx, h2, rfl⟩
  exact h r hr _ hn
theorem env_has {rs : Rs} {b : B} : (env rs b).isSome = hasR rs b := by
  induction rs with
  | nil => rfl
  | cons r t ih =>
    simp only [env, hasR, List.any_cons]
    by_cases h : r.1 = b
    · simp [h]
    · rw [if_neg h, ih]
      have : (r.1 == b) = false := by simpa using h
      rw [this]; rfl
theorem env_mem {rs : Rs} {b : B} {t : T} (h : env rs b = some t) : (b, t) ∈ rs := by
  induction rs with
  | nil => cases h
  | cons r rs ih =>
    simp only [env] at h
    split at h
    · next hb => cases h; subst hb; simp
    · exact List.mem_cons_of_mem _ (ih h)
theorem env_of_mem {rs : Rs} {b : B} {t : T} (hn : (rs.map (·.1)).Nodup) (h : (b, t) ∈ rs) : env rs b = some t := by
  induction rs with
  | nil => cases h
  | cons r rs ih =>
    rw [List.map_cons, List.nodup_cons] at hn
    simp only [env]
    rcases List.mem_cons.1 h with e | h
    · subst e; simp
    · have : r.1 ≠ b := fun e => hn.1 (List.mem_map.2 ⟨_, h, e.symm⟩)
      rw [if_neg this]
      exact ih hn.2 h
theorem env_same {rs rs' : Rs} (hn : (rs.map (·.1)).Nodup) (hn' : (rs'.map (·.1)).Nodup) (h : ∀ r, r ∈ rs ↔ r ∈ rs') (b : B) : env rs b = env rs' b := by
  cases he : env rs b with
  | some t => exact (env_of_mem hn' ((h _).1 (env_mem he))).symm
  | none =>
    cases he' : env rs' b with
    | none => rfl
    | some t => rw [env_of_mem hn ((h _).2 (env_mem he'))] at he; cases he
end Ab
end Go.Proofs.YtckcgiimeaklcaaDoor
