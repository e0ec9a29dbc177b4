/-
  The reader reads each print back: bytes, classes, times. No program in sight.
-/
import Derived.Test.YtebkaajnnjfhjaaDoorT
namespace Go.Proofs.YtebkaajnnjfhjaaDoor
set_option linter.unusedVariables false
set_option linter.unusedSimpArgs false
namespace Tr

theorem W4.ext_has {s t : W4} (hs : s.Ok) (ht : t.Ok) (h : ∀ n, n < 256 → s.has n = t.has n) : s = t := by
  have key : ∀ (x y : Nat), x < 18446744073709551616 → y < 18446744073709551616 → (∀ i, i < 64 → x.testBit i = y.testBit i) → x = y := by
    intro x y hx hy hb
    refine Nat.eq_of_testBit_eq fun i => ?_
    by_cases hi : i < 64
    · exact hb i hi
    · have hp : (18446744073709551616 : Nat) ≤ 2 ^ i := by
        have : (18446744073709551616 : Nat) = 2 ^ 64 := by decide
        rw [this]
        exact Nat.pow_le_pow_right (by omega) (by omega)
      rw [Nat.testBit_lt_two_pow (by omega), Nat.testBit_lt_two_pow (by omega)]
  have w0 : ∀ i, i < 64 → s.a.testBit i = t.a.testBit i := fun i hi => by
    have := h i (by omega)
    unfold W4.has W4.word at this
    rw [show i / 64 = 0 by omega, show i % 64 = i by omega] at this
    simpa using this
  have w1 : ∀ i, i < 64 → s.b.testBit i = t.b.testBit i := fun i hi => by
    have := h (64 + i) (by omega)
    unfold W4.has W4.word at this
    rw [show (64 + i) / 64 = 1 by omega, show (64 + i) % 64 = i by omega] at this
    simpa using this
  have w2 : ∀ i, i < 64 → s.c.testBit i = t.c.testBit i := fun i hi => by
    have := h (128 + i) (by omega)
    unfold W4.has W4.word at this
    rw [show (128 + i) / 64 = 2 by omega, show (128 + i) % 64 = i by omega] at this
    simpa using this
  have w3 : ∀ i, i < 64 → s.d.testBit i = t.d.testBit i := fun i hi => by
    have := h (192 + i) (by omega)
    unfold W4.has W4.word at this
    rw [show (192 + i) / 64 = 3 by omega, show (192 + i) % 64 = i by omega] at this
    simpa using this
  obtain ⟨a1, b1, c1, d1⟩ := s
  obtain ⟨a2, b2, c2, d2⟩ := t
  obtain ⟨h1, h2, h3, h4⟩ := hs
  obtain ⟨g1, g2, g3, g4⟩ := ht
  simp only at *
  rw [key a1 a2 h1 g1 w0, key b1 b2 h2 g2 w1, key c1 c2 h3 g3 w2, key d1 d2 h4 g4 w3]

/-! ### a byte -/
theorem hv_hexd : ∀ n : Fin 16, hv (hexd n.val) = some n.val := by decide
theorem hx2_one (c : UInt8) (rest : B) : hx2 (120 :: hexd (c.toNat / 16) :: hexd (c.toNat % 16) :: rest) = some c := by
  have hc := UInt8.toNat_lt c
  have h1 := hv_hexd ⟨c.toNat / 16, by omega⟩
  have h2 := hv_hexd ⟨c.toNat % 16, by omega⟩
  simp only at h1 h2
  unfold hx2
  simp only [if_true, h1, h2]
  congr 1
  rw [show 16 * (c.toNat / 16) + c.toNat % 16 = c.toNat by omega]
  exact UInt8.ofNat_toNat
theorem one_len (c : UInt8) (of : B) : 1 ≤ (one c of).length := by unfold one; split <;> (try split) <;> simp
theorem esc_hex (place p : Nat) (of : B) (h : of.contains 120 = false) (c : UInt8) (rest : B) :
    esc place of (120 :: hexd (c.toNat / 16) :: hexd (c.toNat % 16) :: rest) p = .ok c rest (p + 3) := by
  unfold esc
  simp only [h, hx2_one]
  simp
theorem item_one (c : UInt8) (rest : B) (p : Nat) : item (one c inside ++ rest) p = .ok c rest (p + (one c inside).length) := by
  unfold one
  split
  · simp only [List.cons_append, List.nil_append]
    unfold item
    simp only [if_true]
    rw [esc_hex _ _ _ (by decide)]
    simp
  · split
    · rename_i h
      simp only [List.cons_append, List.nil_append]
      unfold item
      simp only [if_true]
      unfold esc
      simp only [h, if_true]
      simp
    · rename_i h
      have h' : inside.contains c = false := by simpa using h
      simp only [List.cons_append, List.nil_append]
      unfold item
      have hc : c ≠ 92 := by rintro rfl; exact absurd h' (by decide)
      simp only [hc, if_false, h']
      simp
theorem one_head (c : UInt8) : ∃ x t, one c inside = x :: t ∧ x ≠ 45 ∧ x ≠ 93 ∧ x ≠ 94 := by
  unfold one
  split
  · exact ⟨_, _, rfl, by decide, by decide, by decide⟩
  · split
    · exact ⟨_, _, rfl, by decide, by decide, by decide⟩
    · rename_i h
      have h' : inside.contains c = false := by simpa using h
      exact ⟨_, _, rfl, by rintro rfl; exact absurd h' (by decide), by rintro rfl; exact absurd h' (by decide), by rintro rfl; exact absurd h' (by decide)⟩

/-! ### a class -/
def addRun (s : W4) (r : UInt8 × UInt8) : W4 :=
  if r.1.toNat + 1 = r.2.toNat then (s.or (W4.range r.1.toNat r.1.toNat)).or (W4.range r.2.toNat r.2.toNat) else s.or (W4.range r.1.toNat r.2.toNat)
theorem nx_one (x c : UInt8) (rest : B) (h : ∀ y t, one c inside = y :: t → y ≠ x) : nx x (one c inside ++ rest) = false := by
  obtain ⟨y, t, e, _⟩ := one_head c
  have := h y t e
  rw [e]
  unfold nx
  simp [this]
theorem nx93_one (c : UInt8) (rest : B) : nx 93 (one c inside ++ rest) = false := by
  obtain ⟨y, t, e, _, h, _⟩ := one_head c
  exact nx_one 93 c rest fun y' t' e' => by rw [e] at e'; injection e' with e1 _; rw [← e1]; exact h
theorem nx45_one (c : UInt8) (rest : B) : nx 45 (one c inside ++ rest) = false := by
  obtain ⟨y, t, e, h, _, _⟩ := one_head c
  exact nx_one 45 c rest fun y' t' e' => by rw [e] at e'; injection e' with e1 _; rw [← e1]; exact h
def cend (l : B) : Prop := nx 45 l = false
theorem cls_run (f : Nat) (s : W4) (r : UInt8 × UInt8) (hr : r.1.toNat ≤ r.2.toNat) (rest : B) (hrest : nx 45 rest = false) (p : Nat) :
    ∃ f', f ≤ f' + 2 ∧ f' ≤ f ∧ (2 ≤ f → cls f s (prun r ++ rest) p = cls f' (addRun s r) rest (p + (prun r).length)) := by
  obtain ⟨a, b⟩ := r
  simp only at hr
  rcases f with _ | f
  · exact ⟨0, by omega, by omega, fun h => absurd h (by omega)⟩
  by_cases h1 : a.toNat = b.toNat
  · have hab : a = b := UInt8.toNat_inj.mp h1
    subst hab
    refine ⟨f, by omega, by omega, fun _ => ?_⟩
    have e : prun (a, a) = one a inside := by
      unfold prun; simp
    rw [e, cls, nx93_one, item_one]
    simp only [R.bnd, hrest]
    unfold addRun
    simp
  · by_cases h2 : a.toNat + 1 = b.toNat
    · have e : prun (a, b) = one a inside ++ one b inside := by
        unfold prun; simp only
        rw [if_neg (by omega), if_pos (by omega)]; simp
      rcases f with _ | f
      · exact ⟨0, by omega, by omega, fun h => absurd h (by omega)⟩
      refine ⟨f, by omega, by omega, fun _ => ?_⟩
      rw [e, List.append_assoc, cls, nx93_one, item_one]
      simp only [R.bnd, nx45_one]
      simp only [Bool.false_eq_true, if_false]
      rw [cls, nx93_one, item_one]
      simp only [R.bnd, hrest]
      unfold addRun
      simp only [h2, if_true, List.length_append, Bool.false_eq_true, if_false]
      rw [Nat.add_assoc]
    · have e : prun (a, b) = one a inside ++ 45 :: one b inside := by
        unfold prun; simp only
        rw [if_pos (by omega), if_pos (by omega)]; simp
      refine ⟨f, by omega, by omega, fun _ => ?_⟩
      rw [e, List.append_assoc, cls, nx93_one, item_one]
      simp only [R.bnd]
      have n45 : nx 45 (45 :: one b inside ++ rest) = true := by unfold nx; simp
      simp only [n45, if_true, Bool.false_eq_true, if_false]
      rw [show List.drop 1 (45 :: one b inside ++ rest) = one b inside ++ rest from rfl, item_one]
      simp only
      rw [if_neg (by omega)]
      unfold addRun
      simp only
      rw [if_neg h2]
      congr 1
      simp; omega
theorem cls_runs (rs : List (UInt8 × UInt8)) : ∀ (f : Nat) (s : W4) (rest : B) (p : Nat), (∀ r ∈ rs, r.1.toNat ≤ r.2.toNat) → 2 * rs.length + 1 ≤ f →
    cls f s (rs.flatMap prun ++ 93 :: rest) p = .ok (rs.foldl addRun s) rest (p + (rs.flatMap prun).length + 1) := by
  induction rs with
  | nil =>
    intro f s rest p _ hf
    rcases f with _ | f
    · omega
    simp [cls, nx]
  | cons r rs ih =>
    intro f s rest p hr hf
    simp only [List.length_cons] at hf
    rw [List.flatMap_cons, List.append_assoc]
    obtain ⟨f', h1, h2, h3⟩ := cls_run f s r (hr r (by simp)) (rs.flatMap prun ++ 93 :: rest) (by
      rcases rs with _ | ⟨r2, rs⟩
      · rfl
      · rw [List.flatMap_cons]
        unfold prun
        rw [List.append_assoc, List.append_assoc]
        exact nx45_one _ _) p
    rw [h3 (by omega), ih f' _ _ _ (fun r h => hr r (by simp [h])) (by omega)]
    simp only [List.foldl_cons, List.length_append]
    congr 1
    omega
theorem ok_addRun {s : W4} (hs : s.Ok) (r : UInt8 × UInt8) : (addRun s r).Ok := by
  unfold addRun
  split
  · exact W4.ok_or (W4.ok_or hs (W4.ok_range _ _)) (W4.ok_range _ _)
  · exact W4.ok_or hs (W4.ok_range _ _)
theorem ok_addRuns (rs : List (UInt8 × UInt8)) : ∀ s : W4, s.Ok → (rs.foldl addRun s).Ok := by
  induction rs with
  | nil => exact fun s h => h
  | cons r rs ih => exact fun s h => ih _ (ok_addRun h r)
theorem has_addRun (s : W4) (r : UInt8 × UInt8) (n : Nat) (hn : n < 256) (hr : r.1.toNat ≤ r.2.toNat) : (addRun s r).has n = (s.has n || decide (r.1.toNat ≤ n ∧ n ≤ r.2.toNat)) := by
  have h1 := UInt8.toNat_lt r.1
  have h2 := UInt8.toNat_lt r.2
  unfold addRun
  split
  · rw [W4.has_or, W4.has_or, W4.has_range _ _ _ h1 hn, W4.has_range _ _ _ h2 hn, Bool.or_assoc, ← Bool.decide_or]
    congr 2
    simp only [eq_iff_iff]
    omega
  · rw [W4.has_or, W4.has_range _ _ _ h2 hn]
theorem has_addRuns (rs : List (UInt8 × UInt8)) (n : Nat) (hn : n < 256) : ∀ s : W4, (∀ r ∈ rs, r.1.toNat ≤ r.2.toNat) → (rs.foldl addRun s).has n = (s.has n || rs.any fun r => decide (r.1.toNat ≤ n ∧ n ≤ r.2.toNat)) := by
  induction rs with
  | nil => intro s _; simp
  | cons r rs ih =>
    intro s h
    rw [List.foldl_cons, ih _ (fun r h' => h r (by simp [h'])), has_addRun _ _ _ hn (h r (by simp)), List.any_cons, Bool.or_assoc]
theorem runs_le (l : B) : ∀ r ∈ runs l, r.1.toNat ≤ r.2.toNat := by
  induction l with
  | nil => intro r h; simp [runs] at h
  | cons x t ih =>
    intro r hr
    rw [runs] at hr
    revert hr ih
    generalize runs t = q
    intro ih hr
    rcases q with _ | ⟨⟨y, z⟩, q⟩
    · simp only [List.mem_cons, List.not_mem_nil, or_false] at hr
      subst hr; exact Nat.le_refl _
    · simp only at hr
      have hy := ih (y, z) (by simp)
      simp only at hy
      split at hr
      · simp only [List.mem_cons] at hr
        rcases hr with rfl | hr
        · simp only; omega
        · exact ih r (by simp [hr])
      · simp only [List.mem_cons] at hr
        rcases hr with rfl | rfl | hr
        · exact Nat.le_refl _
        · exact hy
        · exact ih r (by simp [hr])
theorem runs_any (l : B) (n : Nat) : ((runs l).any fun r => decide (r.1.toNat ≤ n ∧ n ≤ r.2.toNat)) = l.any fun c => decide (c.toNat = n) := by
  induction l with
  | nil => rfl
  | cons x t ih =>
    have hle := runs_le t
    rw [runs, List.any_cons, ← ih]
    revert hle
    generalize runs t = q
    intro hle
    rcases q with _ | ⟨⟨y, z⟩, q⟩
    · simp only [List.any_cons, List.any_nil, Bool.or_false]
      congr 1
      simp only [eq_iff_iff]
      omega
    · have hy := hle (y, z) (by simp)
      simp only at hy
      simp only
      split
      · simp only [List.any_cons]
        rw [← Bool.or_assoc]
        congr 1
        rw [← Bool.decide_or]
        congr 1
        simp only [eq_iff_iff]
        omega
      · simp only [List.any_cons]
        congr 1
        congr 1
        simp only [eq_iff_iff]
        omega
theorem runs_len (l : B) : (runs l).length ≤ l.length := by
  induction l with
  | nil => simp [runs]
  | cons x t ih =>
    rw [runs]
    revert ih
    generalize runs t = q
    intro ih
    rcases q with _ | ⟨⟨y, z⟩, q⟩
    · simp
    · simp only
      split <;> simp at ih ⊢ <;> omega
theorem mems_any (s : W4) (n : Nat) (hn : n < 256) : ((mems s).any fun c => decide (c.toNat = n)) = s.has n := by
  unfold mems
  rw [List.any_map]
  cases h : s.has n
  · rw [List.any_eq_false]
    intro m hm
    rw [List.mem_filter, List.mem_range] at hm
    simp only [Function.comp]
    rw [UInt8.toNat_ofNat']
    simp
    rw [Nat.mod_eq_of_lt (by omega)]
    rintro rfl
    rw [h] at hm
    exact Bool.noConfusion hm.2
  · rw [List.any_eq_true]
    refine ⟨n, by rw [List.mem_filter, List.mem_range]; exact ⟨hn, h⟩, ?_⟩
    simp only [Function.comp]
    rw [UInt8.toNat_ofNat']
    simp
    omega
theorem mems_len (s : W4) : (mems s).length ≤ 256 := by
  unfold mems
  rw [List.length_map]
  exact Nat.le_trans (List.length_filter_le _ _) (by simp)
theorem runs_back (s : W4) (hs : s.Ok) : (runs (mems s)).foldl addRun W4.zero = s := by
  refine W4.ext_has (ok_addRuns _ _ W4.ok_zero) hs fun n hn => ?_
  rw [has_addRuns _ _ hn _ (runs_le _), W4.has_zero, Bool.false_or, runs_any, mems_any _ _ hn]
theorem mems_one (s : W4) (hs : s.Ok) (c : UInt8) (h : mems s = [c]) : W4.ofList [c] = s := by
  refine W4.ext_has (W4.ok_ofList _) hs fun n hn => ?_
  rw [W4.has_ofList _ _ hn, ← mems_any s n hn, h]
theorem filter_all {α : Type} (p : α → Bool) (l : List α) (h : (l.filter p).length = l.length) : ∀ x ∈ l, p x = true := by
  induction l with
  | nil => intro x hx; simp at hx
  | cons a t ih =>
    have h2 := List.length_filter_le p t
    rw [List.filter_cons] at h
    split at h
    · rename_i ha
      simp only [List.length_cons] at h
      intro x hx
      simp only [List.mem_cons] at hx
      rcases hx with rfl | hx
      · exact ha
      · exact ih (by omega) x hx
    · simp only [List.length_cons] at h
      omega
theorem mems_all (s : W4) (hs : s.Ok) (h : (mems s).length = 256) : W4.zero.not = s := by
  refine W4.ext_has (W4.ok_not _) hs fun n hn => ?_
  rw [W4.has_not W4.ok_zero, W4.has_zero]
  have := filter_all (fun n => s.has n) (List.range 256) (by unfold mems at h; rw [List.length_map] at h; rw [h, List.length_range]) n (by rw [List.mem_range]; exact hn)
  rw [this]; rfl

/-! ### a set's print -/
theorem one_marks (c : UInt8) : ∃ x t, one c marks = x :: t ∧ (x = 92 ∨ marks.contains x = false) := by
  unfold one
  split
  · exact ⟨_, _, rfl, .inl rfl⟩
  · split
    · exact ⟨_, _, rfl, .inl rfl⟩
    · rename_i h
      exact ⟨_, _, rfl, .inr (by simpa using h)⟩
theorem atm_one (f : Nat) (g : Nat → B → Nat → R T) (c : UInt8) (rest : B) (p : Nat) (x : UInt8) (t : B) (h : one c marks = x :: t) :
    atm f g x (t ++ rest) p = .ok (.set (W4.ofList [c])) rest (p + (one c marks).length) := by
  unfold one at h ⊢
  split at h
  · rename_i hc
    rw [if_pos hc]
    injection h with h1 h2
    subst h1 h2
    simp only [List.cons_append, List.nil_append]
    unfold atm
    rw [if_neg (by decide), if_neg (by decide), if_neg (by decide), if_pos rfl, esc_hex _ _ _ (by decide)]
    simp [R.bnd]
  · rename_i hc
    rw [if_neg hc]
    split at h
    · rename_i hm
      rw [if_pos hm]
      injection h with h1 h2
      subst h1 h2
      simp only [List.cons_append, List.nil_append]
      unfold atm
      rw [if_neg (by decide), if_neg (by decide), if_neg (by decide), if_pos rfl]
      unfold esc
      simp only [hm, if_true]
      simp [R.bnd]
    · rename_i hm
      rw [if_neg hm]
      have h' : marks.contains c = false := by simpa using hm
      injection h with h1 h2
      subst h1 h2
      unfold atm
      rw [if_neg (by rintro rfl; exact absurd h' (by decide)), if_neg (by rintro rfl; exact absurd h' (by decide)), if_neg (by rintro rfl; exact absurd h' (by decide)), if_neg (by rintro rfl; exact absurd h' (by decide)), h']
      simp
theorem pset_cases (s : W4) (hs : s.Ok) : (pset s = [46] ∧ W4.zero.not = s) ∨ (∃ c, pset s = one c marks ∧ W4.ofList [c] = s) ∨ (pset s = 91 :: ((runs (mems s)).flatMap prun ++ [93])) := by
  unfold pset
  split
  · rename_i h; exact .inl ⟨rfl, mems_all s hs h⟩
  · split
    · rename_i c h; exact .inr (.inl ⟨c, rfl, mems_one s hs c h⟩)
    · exact .inr (.inr rfl)
theorem runs_nx94 (l rest : B) : nx 94 ((runs l).flatMap prun ++ 93 :: rest) = false := by
  rcases runs l with _ | ⟨r, rs⟩
  · rfl
  · rw [List.flatMap_cons]
    unfold prun
    rw [List.append_assoc, List.append_assoc]
    obtain ⟨y, t, e, _, _, h⟩ := one_head r.1
    exact nx_one 94 r.1 _ fun y' t' e' => by rw [e] at e'; injection e' with e1 _; rw [← e1]; exact h
theorem atm_set (f : Nat) (hf : 520 ≤ f) (g : Nat → B → Nat → R T) (s : W4) (hs : s.Ok) (rest : B) (p : Nat) :
    ∃ x t, pset s = x :: t ∧ atm f g x (t ++ rest) p = .ok (.set s) rest (p + (pset s).length) ∧ [38, 33, 124, 42, 43, 63, 123, 125, 93, 41].contains x = false := by
  rcases pset_cases s hs with ⟨e, h⟩ | ⟨c, e, h⟩ | e
  · refine ⟨46, [], e, ?_, by decide⟩
    rw [e, ← h]
    unfold atm
    rw [if_neg (by decide), if_pos rfl]
    rfl
  · obtain ⟨x, t, e', hx⟩ := one_marks c
    refine ⟨x, t, e.trans e', ?_, ?_⟩
    · rw [e, ← h]
      exact atm_one f g c rest p x t e'
    · rcases hx with rfl | hx
      · decide
      · revert hx
        unfold marks
        simp only [List.contains_cons, Bool.or_eq_false_iff]
        rintro ⟨h1, h2, h3, h4, h5, h6, h7, h8, h9, h10, h11, h12, h13, h14, h15⟩
        simp only [h1, h2, h3, h4, h5, h6, h7, h8, h10, h12]
        exact ⟨trivial, trivial, trivial, trivial, trivial, trivial, trivial, trivial, trivial, trivial, h15⟩
  · refine ⟨91, _, e, ?_, by decide⟩
    have hl := runs_len (mems s)
    have hm := mems_len s
    rw [e]
    unfold atm
    rw [if_neg (by decide), if_neg (by decide), if_pos rfl]
    unfold klass
    rw [List.append_assoc]
    show (R.bnd (if nx 94 ((runs (mems s)).flatMap prun ++ 93 :: rest) = true then _ else cls f W4.zero ((runs (mems s)).flatMap prun ++ 93 :: rest) (p + 1)) _) = _
    rw [runs_nx94]
    simp only [Bool.false_eq_true, if_false]
    rw [cls_runs _ _ _ _ _ (runs_le _) (by omega), runs_back s hs]
    simp only [R.bnd, List.length_cons, List.length_append, List.length_nil]
    congr 1
    omega

/-! ### times -/
def notim (l : B) : Prop := nx 42 l = false ∧ nx 43 l = false ∧ nx 63 l = false ∧ nx 123 l = false
theorem tim_none (l : B) (h : notim l) (p : Nat) : tim l p = .ok none l p := by
  obtain ⟨h1, h2, h3, h4⟩ := h
  unfold tim
  simp only [h1, h2, h3, h4]
  simp
theorem digit_dgt (n : Int) (h0 : 0 ≤ n) (h9 : n ≤ 9) (rest : B) (p : Nat) : digit (dgt n :: rest) p = .ok n rest (p + 1) := by
  obtain ⟨k, rfl⟩ := Int.eq_ofNat_of_zero_le h0
  have hk : k ≤ 9 := by omega
  have e : (dgt (k : Int)).toNat = 48 + k := by
    unfold dgt
    rw [UInt8.toNat_ofNat']
    simp
    omega
  unfold digit
  simp only [e]
  rw [if_pos (by omega)]
  congr 1
  omega
theorem tim_ptm (mn mx : Int) (h : (mx = -1 ∧ (mn = 0 ∨ mn = 1)) ∨ (0 ≤ mn ∧ mn ≤ mx ∧ mx ≤ 9)) (rest : B) (p : Nat) : tim (ptm mn mx ++ rest) p = .ok (some (mn, mx)) rest (p + (ptm mn mx).length) := by
  have hn : ∀ (c x : UInt8) (l : B), nx c (x :: l) = (x == c) := fun c x l => by unfold nx; simp
  unfold ptm
  split
  · rename_i hm
    subst hm
    split
    · rename_i h0
      subst h0
      simp [tim, nx]
    · rename_i h0
      have : mn = 1 := by omega
      subst this
      simp [tim, nx]
  · rename_i hm
    split
    · rename_i h0
      obtain ⟨rfl, rfl⟩ := h0
      simp [tim, nx]
    · rename_i h01
      have h' : 0 ≤ mn ∧ mn ≤ mx ∧ mx ≤ 9 := by omega
      split
      · rename_i he
        subst he
        unfold tim
        simp only [List.cons_append, List.nil_append, hn, List.drop_succ_cons, List.drop_zero]
        rw [digit_dgt _ h'.1 h'.2.2]
        simp [R.bnd, hn, brace]
      · unfold tim
        simp only [List.cons_append, List.nil_append, hn, List.drop_succ_cons, List.drop_zero]
        rw [digit_dgt _ h'.1 (by omega)]
        simp only [R.bnd, hn, List.drop_succ_cons, List.drop_zero]
        rw [digit_dgt _ (by omega) h'.2.2]
        simp only [R.bnd, hn, brace, List.drop_succ_cons, List.drop_zero]
        have hlt : ¬ mx < mn := by omega
        simp [hlt]
end Tr
end Go.Proofs.YtebkaajnnjfhjaaDoor
