/-
  The lines of a text turned about, with blanks around them: no program in sight.
-/
import Derived.Test.YtckcgiimeaklcaaDoorFr
import Derived.Test.YtckcgiimeaklcaaDoorDt
import Derived.Test.YtckcgiimeaklcaaDoorAg
namespace Go.Proofs.YtckcgiimeaklcaaDoor
set_option linter.unusedVariables false
set_option linter.unusedSimpArgs false
namespace Ab
/-- A line, blanks around it or not. -/
def Wr (s k : B) : Prop := k = s ∨ k = 32 :: 32 :: (s ++ [32])
theorem wr_blanks {s k : B} (h : Wr s k) : Ey (blanks s) (blanks k) := by
  rcases h with rfl | rfl
  · exact .inl rfl
  · have : blanks (32 :: 32 :: (s ++ [32])) = blanks (s ++ [32]) := by simp [blanks]
    rw [this]
    exact ex_blanks (.inr rfl)
/-- What a line says, whatever rules there are. -/
def Says (k : B) : Option (B × T) → Prop
  | none => nx 59 k = true ∨ (nx 59 k = false ∧ blanks k = [])
  | some (b, t) => nx 59 k = false ∧ blanks k ≠ [] ∧ ∀ rs : Rs, rs.length ≠ 100 → szs rs + sz t ≤ 1500 → rule 8001 rs k = if hasR rs b = true then .no 8 else .ok (some (b, t)) [] (szs rs + sz t)
theorem rule_says {rs : Rs} {s : B} {v : Option (B × T)} {l : B} {n : Nat} (h : rule 8001 rs s = .ok v l n) (h59 : nx 59 s = false) : (∀ k, Wr s k → nx 59 k = false → Says k v) ∧ (∀ r, v = some r → sz r.2 ≤ 2 * s.length) := by
  unfold rule at h
  split at h
  · next hb =>
    cases h
    refine ⟨fun k hk h0 => .inr ⟨h0, ?_⟩, fun r e => by cases e⟩
    rcases wr_blanks hk with e | ⟨hn, _⟩
    · rw [e, hb]
    · exact absurd hb hn
  · next hb =>
    split at h
    · cases h
    · split at h
      · cases h
      · next hnm =>
        split at h
        · next h61 =>
          obtain ⟨t1, l1, n1, h1, h2⟩ := bnd_ok h
          split at h2
          · cases h2
          · next hh =>
            cases h2
            have hl1 : l = [] := Classical.byContradiction fun e => hh (.inr e)
            subst hl1
            obtain ⟨e1, e2, e3⟩ := fr_alt (fr_grp 8001 16) 8001 _ _ _ _ _ h1
            refine ⟨fun k hk h0 => ⟨h0, ?_, fun rs2 hr hs => ?_⟩, fun r e => ?_⟩
            · rcases wr_blanks hk with e | ⟨hn, e⟩
              · rw [e]; exact hb
              · rw [e]; simp
            · have y1 := wr_blanks hk
              obtain ⟨m1, m2⟩ := ex_name y1.ex
              have y2 := ex_blanks m2
              have hbk : blanks k ≠ [] := by
                rcases y1 with e | ⟨hn, e⟩
                · rw [e]; exact hb
                · rw [e]; simp
              obtain ⟨k', x1, x2⟩ := e3 ((blanks (name (blanks k)).2).drop 1) (szs rs2) (ex_drop y2.ex) hs
              have hk' : k' = [] := by
                rcases x1 with e | ⟨hn, _⟩
                · exact e
                · exact absurd rfl hn
              subst hk'
              unfold rule
              rw [if_neg hbk, if_neg hr, m1, if_neg hnm, ex_nx (by decide) y2.ex, if_pos h61, x2]
              simp only [R.bnd]
              cases hasR rs2 (name (blanks s)).1 <;> simp
            · cases e
              have b1 := blanks_le s
              have b2 := (name_le (blanks s)).2
              have b3 := blanks_le (name (blanks s)).2
              have b4 := drop_le (blanks (name (blanks s)).2) 1
              simp only at *
              omega
        · cases h
inductive Lines : List B → List (Option (B × T)) → Prop
  | nil : Lines [] []
  | cons {k : B} {v : Option (B × T)} {K : List B} {V : List (Option (B × T))} : Says k v → Lines K V → Lines (k :: K) (v :: V)
theorem Lines.app {K K' : List B} {V V' : List (Option (B × T))} (h : Lines K V) (h' : Lines K' V') : Lines (K ++ K') (V ++ V') := by
  induction h with
  | nil => exact h'
  | cons h1 h2 ih => exact .cons h1 ih
/-- A line with blanks around it, if it is no remark. -/
def wrapL (l : B) : B := if nx 59 l = true then l else 32 :: 32 :: (l ++ [32])
theorem lines_says : ∀ (L : List B) (i : Nat) (rs : Rs) (ln : List Int) (rs' : Rs) (ln' : List Int), lines i rs ln L = .good rs' ln' →
    ∃ V, Lines (L.map wrapL) V ∧ rs' = rs ++ V.filterMap id ∧ szs (V.filterMap id) ≤ 2 * (L.map List.length).sum
  | [], i, rs, ln, rs', ln', h => by
    unfold lines at h
    cases h
    exact ⟨[], .nil, by simp, by simp [szs]⟩
  | s :: L, i, rs, ln, rs', ln', h => by
    unfold lines at h
    split at h
    · next h59 =>
      obtain ⟨V, h1, h2, h3⟩ := lines_says L _ _ _ _ _ h
      refine ⟨none :: V, .cons ?_ h1, by simpa using h2, by simp at h3 ⊢; omega⟩
      have : wrapL s = s := if_pos h59
      rw [this]
      exact .inl h59
    · next h59 =>
      have h59' : nx 59 s = false := by simpa using h59
      split at h
      · cases h
      · next v l n hr =>
        obtain ⟨V, h1, h2, h3⟩ := lines_says L _ _ _ _ _ h
        obtain ⟨m1, m2⟩ := rule_says hr h59'
        have hw : wrapL s = 32 :: 32 :: (s ++ [32]) := if_neg h59
        refine ⟨v :: V, .cons (by rw [hw]; exact m1 _ (.inr rfl) rfl) h1, ?_, ?_⟩
        · rw [h2]
          cases v with
          | none => simp [addR]
          | some r => simp [addR]
        · cases v with
          | none => simp at h3 ⊢; omega
          | some r =>
            have := m2 r rfl
            simp [szs] at h3 ⊢
            omega
/-- Lines that say something, read behind rules that there are. -/
theorem lines_run {K : List B} {V : List (Option (B × T))} (h : Lines K V) : ∀ (i : Nat) (rs : Rs) (ln : List Int), szs rs + szs (V.filterMap id) ≤ 1500 →
    (∃ ln', lines i rs ln K = .good (rs ++ V.filterMap id) ln') ∨ (∃ j, lines i rs ln K = .bad j 3 ∧ 100 < (rs ++ V.filterMap id).length) ∨ (∃ j, lines i rs ln K = .bad j 8 ∧ ¬ ((rs ++ V.filterMap id).map (·.1)).Nodup) := by
  induction h with
  | nil => intro i rs ln _; exact .inl ⟨ln, by unfold lines; simp⟩
  | @cons k v K V hs hL ih =>
    intro i rs ln hz
    cases v with
    | none =>
      have hz' : szs rs + szs (V.filterMap id) ≤ 1500 := by simpa using hz
      rcases hs with h59 | ⟨h59, hb⟩
      · have e : lines i rs ln (k :: K) = lines (i + 1) rs ln K := by rw [lines, h59]; rfl
        rw [e]
        simpa using ih (i + 1) rs ln hz'
      · have hr : rule 8001 rs k = .ok none [] (szs rs) := by unfold rule; rw [if_pos hb]
        have e : lines i rs ln (k :: K) = lines (i + 1) rs ln K := by rw [lines, h59, hr]; rfl
        rw [e]
        simpa using ih (i + 1) rs ln hz'
    | some r =>
      obtain ⟨b, t⟩ := r
      obtain ⟨h59, hb, hru⟩ := hs
      have hz' : szs rs + (sz t + szs (V.filterMap id)) ≤ 1500 := by simpa [szs] using hz
      by_cases h100 : rs.length = 100
      · have hr : rule 8001 rs k = .no 3 := by unfold rule; rw [if_neg hb, if_pos h100]
        refine .inr (.inl ⟨i, by rw [lines, h59, hr]; rfl, by simp; omega⟩)
      · have hr := hru rs h100 (by omega)
        cases hh : hasR rs b
        · rw [hh] at hr
          have hr2 : rule 8001 rs k = .ok (some (b, t)) [] (szs rs + sz t) := hr
          have e : lines i rs ln (k :: K) = lines (i + 1) (rs ++ [(b, t)]) (addL ln i (some (b, t))) K := by rw [lines, h59, hr2]; rfl
          rw [e]
          have := ih (i + 1) (rs ++ [(b, t)]) (addL ln i (some (b, t))) (by rw [szs_append]; simp only; omega)
          simpa using this
        · rw [hh] at hr
          have hr2 : rule 8001 rs k = .no 8 := hr
          refine .inr (.inr ⟨i, by rw [lines, h59, hr2]; rfl, fun hn => ?_⟩)
          rw [List.map_append, List.nodup_append] at hn
          unfold hasR at hh
          rw [List.any_eq_true] at hh
          obtain ⟨q, hq, hqb⟩ := hh
          have hqb' : q.1 = b := by simpa using hqb
          exact hn.2.2 q.1 (List.mem_map.2 ⟨q, hq, rfl⟩) b (by simp) hqb'
/-! ### the text -/
def turnL : List B → B → B
  | [], acc => acc
  | l :: L, acc => turnL L (wrapL l ++ 10 :: acc)
def turn (l : B) : B := turnL (split l) []
theorem split_line : ∀ (l r : B), (10 : UInt8) ∉ l → split (l ++ 10 :: r) = l :: split r
  | [], r, _ => by simp [split]
  | c :: t, r, h => by
    have hc : c ≠ 10 := fun e => h (by simp [e])
    have ht : (10 : UInt8) ∉ t := fun e => h (by simp [e])
    rw [List.cons_append, split, if_neg hc, split_line t r ht]
theorem split_no : ∀ (l : B), ∀ x ∈ split l, (10 : UInt8) ∉ x
  | [], x, hx => by
    have : x = [] := by simpa [split] using hx
    simp [this]
  | c :: t, x, hx => by
    have ih := split_no t
    unfold split at hx
    split at hx
    · rcases List.mem_cons.1 hx with rfl | hx
      · simp
      · exact ih x hx
    · next hc =>
      split at hx
      · next hs =>
        have : x = [c] := by simpa using hx
        rw [this]
        simpa using fun e => hc e.symm
      · next y r hs =>
        rw [hs] at ih
        rcases List.mem_cons.1 hx with rfl | hx
        · simp only [List.mem_cons, not_or]
          exact ⟨fun e => hc e.symm, ih y (by simp)⟩
        · exact ih x (by simp [hx])
theorem wrap_no {l : B} (h : (10 : UInt8) ∉ l) : (10 : UInt8) ∉ wrapL l := by
  unfold wrapL
  split
  · exact h
  · simp [h]
theorem turn_split : ∀ (L : List B) (acc : B), (∀ x ∈ L, (10 : UInt8) ∉ x) → split (turnL L acc) = (L.map wrapL).reverse ++ split acc
  | [], acc, _ => by simp [turnL]
  | l :: L, acc, h => by
    unfold turnL
    rw [turn_split L _ (fun x hx => h x (by simp [hx])), split_line _ _ (wrap_no (h l (by simp)))]
    simp
theorem split_sum : ∀ l : B, ((split l).map List.length).sum + (split l).length = l.length + 1
  | [] => by simp [split]
  | c :: t => by
    have ih := split_sum t
    unfold split
    split
    · simp; omega
    · split
      · next hs => rw [hs] at ih; simp at ih
      · next y r hs => rw [hs] at ih; simp at ih ⊢; omega
theorem wrap_len (l : B) : (wrapL l).length ≤ l.length + 3 := by
  unfold wrapL
  split
  · omega
  · simp
theorem turn_len : ∀ (L : List B) (acc : B), (turnL L acc).length ≤ (L.map List.length).sum + 4 * L.length + acc.length
  | [], acc => by simp [turnL]
  | l :: L, acc => by
    unfold turnL
    have := turn_len L (wrapL l ++ 10 :: acc)
    have h2 := wrap_len l
    simp at this ⊢
    omega
theorem lines_rev {K : List B} {V : List (Option (B × T))} (h : Lines K V) : Lines K.reverse V.reverse := by
  induction h with
  | nil => exact .nil
  | cons h1 h2 ih =>
    rw [List.reverse_cons, List.reverse_cons]
    exact ih.app (.cons h1 .nil)
theorem szs_rev : ∀ rs : Rs, szs rs.reverse = szs rs
  | [] => rfl
  | r :: rs => by rw [List.reverse_cons, szs_append, szs_rev rs]; simp only [szs]; omega
/-- The line that is laid ahead: zz9-other = "o" zz9-other / "". -/
def zz : B := [122, 122, 57, 45, 111, 116, 104, 101, 114]
def zline : B := [122, 122, 57, 45, 111, 116, 104, 101, 114, 32, 61, 32, 34, 111, 34, 32, 122, 122, 57, 45, 111, 116, 104, 101, 114, 32, 47, 32, 34, 34]
def zT : T := .eith (.both (.txt [111]) (.nam zz)) (.txt [])
theorem zline_says : Says zline (some (zz, zT)) := by
  have h : (match rule 8001 [] zline with | .ok (some r) l n => decide (r = (zz, zT)) | _ => false) = true := by decide +kernel
  cases hr : rule 8001 [] zline with
  | no e => rw [hr] at h; cases h
  | ok v l n =>
    cases v with
    | none => rw [hr] at h; cases h
    | some r =>
      rw [hr] at h
      obtain rfl : r = (zz, zT) := by simpa using h
      exact (rule_says hr (by decide)).1 _ (.inl rfl) (by decide)
theorem hasR_mem {rs : Rs} {b : B} : hasR rs b = true ↔ b ∈ rs.map (·.1) := by
  unfold hasR
  rw [List.any_eq_true, List.mem_map]
  simp only [beq_iff_eq]
theorem read_good_lines {text : B} {rs : Rs} {ln : List Int} (h : read text = .good rs ln) : text.length ≤ 8000 ∧ lines 1 [] [] (split text) = .good rs ln ∧ missing rs (els 0 rs) ln = none := by
  unfold read at h
  split at h
  · cases h
  · next h8 =>
    split at h
    · cases h
    · next rs' ln' hl =>
      split at h
      · cases h
      · next hm => cases h; exact ⟨by omega, hl, hm⟩
theorem read_of_lines {text : B} (h8 : text.length ≤ 8000) : read text = match lines 1 [] [] (split text) with
    | .bad i e => .bad i e
    | .good rs ln => match missing rs (els 0 rs) ln with
      | some i => .bad i 4
      | none => .good rs ln := if_neg (by omega)
theorem cl_of {rs : Rs} (hs : ∀ x ∈ els 0 rs, x.k = 2 → hasR rs x.t = true) : Cl rs := by
  intro r hr b hb
  obtain ⟨x, hx, h2, h3⟩ := (els_nm rs 0 b).2 ⟨r, hr, hb⟩
  rw [← h3]
  exact hs x hx h2
/-- The text turned about is read as the rules turned about; with one more rule ahead it is read so, too, but for what is too much, or twice there. -/
theorem turned_read {text : B} {rs : Rs} {ln : List Int} (h4 : text.length ≤ 400) (h : read text = .good rs ln) (hn : (rs.map (·.1)).Nodup) (h100 : rs.length ≤ 100) (hs : ∀ x ∈ els 0 rs, x.k = 2 → hasR rs x.t = true) :
    (∃ ln', read (turn text) = .good rs.reverse ln') ∧ ((∃ ln', read (zline ++ 10 :: turn text) = .good ((zz, zT) :: rs.reverse) ln') ∨ (∃ j, read (zline ++ 10 :: turn text) = .bad j 3) ∨ (∃ j, read (zline ++ 10 :: turn text) = .bad j 8 ∧ hasR rs zz = true)) := by
  obtain ⟨_, hl, hm⟩ := read_good_lines h
  obtain ⟨V, v1, v2, v3⟩ := lines_says _ _ _ _ _ _ hl
  rw [List.nil_append] at v2
  have hsum := split_sum text
  have hpos := split_pos text
  have hsz : szs rs ≤ 800 := by rw [v2]; omega
  have hcl := cl_of hs
  have hsp : split (turn text) = ((split text).map wrapL).reverse ++ [[]] := turn_split _ _ (split_no text)
  have hL : Lines (((split text).map wrapL).reverse ++ [[]]) (V.reverse ++ [none]) := (lines_rev v1).app (.cons (.inr ⟨rfl, rfl⟩) .nil)
  have hV : (V.reverse ++ [none]).filterMap id = rs.reverse := by rw [List.filterMap_append, List.filterMap_reverse, v2]; simp
  have hnr : (rs.reverse.map (·.1)).Nodup := by rw [List.map_reverse]; unfold List.Nodup at hn ⊢; rw [List.pairwise_reverse]; exact hn.imp (fun h e => h e.symm)
  have hlen := turn_len (split text) []
  have hlt : (turn text).length ≤ 4000 := by unfold turn; simp at hlen; omega
  have hmem : ∀ b, hasR rs.reverse b = hasR rs b := fun b => by
    rw [Bool.eq_iff_iff, hasR_mem, hasR_mem, List.map_reverse, List.mem_reverse]
  have hclr : Cl rs.reverse := fun r hr b hb => by rw [hmem]; exact hcl r (List.mem_reverse.1 hr) b hb
  constructor
  · rw [read_of_lines (by omega), hsp]
    rcases lines_run hL 1 [] [] (by rw [hV, szs_rev]; simp [szs]; omega) with ⟨ln', e⟩ | ⟨j, e, h5⟩ | ⟨j, e, h5⟩
    · rw [hV, List.nil_append] at e
      rw [e]
      simp only
      rw [missing_cl hclr]
      exact ⟨ln', rfl⟩
    · rw [hV, List.nil_append, List.length_reverse] at h5
      omega
    · rw [hV, List.nil_append] at h5
      exact absurd hnr h5
  · have hsz2 : split (zline ++ 10 :: turn text) = zline :: (((split text).map wrapL).reverse ++ [[]]) := by rw [split_line _ _ (by decide), hsp]
    have hL2 : Lines (zline :: (((split text).map wrapL).reverse ++ [[]])) (some (zz, zT) :: (V.reverse ++ [none])) := .cons zline_says hL
    have hV2 : (some (zz, zT) :: (V.reverse ++ [none])).filterMap id = (zz, zT) :: rs.reverse := by rw [← hV]; simp
    have hl8 : (zline ++ 10 :: turn text).length ≤ 8000 := by
      have : zline.length = 30 := rfl
      rw [List.length_append, List.length_cons]
      omega
    rw [read_of_lines hl8, hsz2]
    rcases lines_run hL2 1 [] [] (by rw [hV2]; simp only [szs, szs_rev]; have : sz zT = 5 := rfl; omega) with ⟨ln', e⟩ | ⟨j, e, h5⟩ | ⟨j, e, h5⟩
    · rw [hV2, List.nil_append] at e
      have hc3 : Cl ((zz, zT) :: rs.reverse) := by
        intro r hr b hb
        rw [hasR_mem]
        rcases List.mem_cons.1 hr with rfl | hr
        · have : b = zz := by
            simp only [zT, Nm] at hb
            rcases hb with (hb | hb) | hb
            · exact hb.elim
            · exact hb.symm
            · exact hb.elim
          rw [this]; simp
        · have := hasR_mem.1 (hclr r hr b hb)
          simp only [List.map_cons, List.mem_cons]
          exact .inr this
      rw [e]
      simp only
      rw [missing_cl hc3]
      exact .inl ⟨ln', rfl⟩
    · rw [e]
      exact .inr (.inl ⟨j, rfl⟩)
    · rw [e]
      refine .inr (.inr ⟨j, rfl, ?_⟩)
      rw [hV2, List.nil_append, List.map_cons, List.nodup_cons] at h5
      rw [hasR_mem]
      refine Classical.byContradiction fun hz => h5 ⟨?_, hnr⟩
      rw [List.map_reverse, List.mem_reverse]
      exact hz
end Ab
end Go.Proofs.YtckcgiimeaklcaaDoor
