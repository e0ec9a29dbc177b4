/-
  A right tree's prints are short: each node is come by once at most. No program in sight.
-/
import Derived.Test.YtebkaajnnjfhjaaTT
import Derived.Test.YtebkaajnnjfhjaaRuns
namespace Go.Proofs.Ytebkaajnnjfhjaa
set_option linter.unusedVariables false
set_option linter.unusedSimpArgs false
namespace Tr

theorem sum_le_count (g : Nat → Nat) (V : List Nat) : ∀ U : List Nat, (∀ p, V.count p ≤ U.count p) → (V.map g).sum ≤ (U.map g).sum := by
  induction V with
  | nil => intro U _; simp
  | cons a V ih =>
    intro U h
    have ha : a ∈ U := by
      have := h a
      rw [List.count_cons_self] at this
      exact List.count_pos_iff.1 (by omega)
    have hp : U.Perm (a :: U.erase a) := List.perm_cons_erase ha
    have e : (U.map g).sum = g a + ((U.erase a).map g).sum := by
      rw [List.Perm.sum_nat (hp.map g), List.map_cons, List.sum_cons]
    rw [e, List.map_cons, List.sum_cons]
    have := ih (U.erase a) fun p => by
      have h1 := h p
      have h2 := List.perm_iff_count.1 hp p
      rw [List.count_cons] at h1 h2
      omega
    omega
theorem vis_once {ns : List Nd} {ps : List Pt} (h : Good ns ps) {i : Nat} (hi : i < ns.length) (f : Nat) (hf : i < f) : ∀ j, (vis ns f i).count j ≤ 1 := by
  have hd : Dn ns := h.dn
  have hq := vis_perm ns f i hf (hd.on _)
  have hlt := vis_lt ns f i hf (hd.on _)
  have key : ∀ d j, i - j ≤ d → (vis ns f i).count j ≤ 1 := by
    intro d
    induction d with
    | zero =>
      intro j hj
      by_cases he : j = i
      · subst he
        have hc := List.perm_iff_count.1 hq (j : Int)
        rw [count_cast, List.count_cons_self, List.count_eq_zero_of_not_mem (l := (vis ns f j).flatMap (ch ns))] at hc
        · omega
        · intro hm
          obtain ⟨p, hp, hc'⟩ := List.mem_flatMap.1 hm
          have h1 := hlt p hp
          have h2 := hd.on [p] p (by simp) _ hc'
          omega
      · rw [List.count_eq_zero_of_not_mem fun hm => by have := hlt j hm; omega]
        omega
    | succ d ih =>
      intro j hj
      by_cases hji : i ≤ j
      · exact ih j (by omega)
      have hc := List.perm_iff_count.1 hq (j : Int)
      rw [count_cast, List.count_cons, if_neg (by simp; omega), count_flatMap_sum] at hc
      have z : ∀ p, decide (j < p) = false → (ch ns p).count (j : Int) = 0 := by
        intro p hp
        refine List.count_eq_zero_of_not_mem fun hm => ?_
        have := hd.on [p] p (by simp) _ hm
        have hp' : ¬ j < p := by simpa using hp
        omega
      rw [sum_filter _ (fun p => decide (j < p)) _ (fun p _ => z p)] at hc
      have hu := h.us j (by omega)
      rw [List.count_append, ← ch_range, count_flatMap_sum] at hu
      have := sum_le_count (fun p => (ch ns p).count (j : Int)) ((vis ns f i).filter fun p => decide (j < p)) (List.range ns.length) fun p => by
        by_cases hp : j < p
        · rw [List.count_filter (by simpa using hp)]
          by_cases hpl : p < ns.length
          · rw [cnt_range hpl]; exact ih p (by omega)
          · rw [List.count_eq_zero_of_not_mem fun hm => by have := hlt p hm; omega]; omega
        · rw [List.count_eq_zero_of_not_mem (by simp; omega)]; omega
      omega
  exact fun j => key (i - j) j (Nat.le_refl _)
theorem vis_short {ns : List Nd} {ps : List Pt} (h : Good ns ps) {i : Nat} (hi : i < ns.length) (f : Nat) (hf : i < f) : (vis ns f i).length ≤ ns.length := by
  have hd : Dn ns := h.dn
  have hlt := vis_lt ns f i hf (hd.on _)
  have := sum_le_count (fun _ => 1) (vis ns f i) (List.range ns.length) fun p => by
    by_cases hp : p < ns.length
    · rw [cnt_range hp]; exact vis_once h hi f hf p
    · rw [List.count_eq_zero_of_not_mem fun hm => by have := hlt p hm; omega]; omega
  have e : ∀ l : List Nat, (l.map fun _ => 1).sum = l.length := by intro l; induction l with | nil => rfl | cons a l ih => simp [ih]; omega
  rw [e, e, List.length_range] at this
  exact this
def sz : T → Nat
  | .emp => 1
  | .set _ => 1
  | .seq a b => sz a + sz b + 1
  | .alt a b => sz a + sz b + 1
  | .tms a _ _ => sz a + 1
theorem sz_tof (ns : List Nd) (f : Nat) : ∀ i, (∀ n ∈ ns, may n = true) → i < f → (hd : Dn ns) → i < ns.length → sz (tof ns f i) = (vis ns f i).length := by
  induction f with
  | zero => intro i _ h; omega
  | succ f ih =>
    intro i hm hi hd hl
    have hn : ns[i]? = some ns[i] := List.getElem?_eq_getElem hl
    have hc := hd i _ hn
    have hch : ch ns i = below ns[i] := by unfold ch; rw [hn]
    rw [tof, vis, hn, hch]
    simp only
    generalize ns[i] = n at hc
    rcases below_cases n with ⟨hk34, e⟩ | ⟨hk5, e⟩ | ⟨k3, k4, k5, e⟩
    · have ha := hc n.a (by simp [e])
      have hb := hc n.b (by simp [e])
      have h1 := ih n.a.toNat hm (by omega) hd (by omega)
      have h2 := ih n.b.toNat hm (by omega) hd (by omega)
      rw [e]
      rcases hk34 with hk | hk
      · simp [hk, sz, h1, h2]
      · simp [hk, sz, h1, h2]
    · have ha := hc n.a (by simp [e])
      have h1 := ih n.a.toNat hm (by omega) hd (by omega)
      rw [e]
      simp [hk5, sz, h1]
    · rw [e]
      by_cases k2 : n.k = 2 <;> simp [k2, k3, k4, k5, sz]
theorem sz_le {ns : List Nd} {ps : List Pt} (h : Good ns ps) {i : Nat} (hi : i < ns.length) : sz (tr ns i) ≤ 600 := by
  unfold tr
  rw [sz_tof ns (i + 1) i h.my (by omega) h.dn hi]
  have := vis_short h hi (i + 1) (by omega)
  have := h.n2
  omega
theorem prune_len (l : List (UInt8 × UInt8)) : (l.flatMap prun).length ≤ 9 * l.length := by
  induction l with
  | nil => simp
  | cons r l ih => rw [List.flatMap_cons, List.length_append, List.length_cons]; have := prun_len r; omega
theorem pset_len (s : W4) : (pset s).length ≤ 2310 := by
  unfold pset
  split
  · simp
  split
  · have := one_len4 ‹UInt8› marks; omega
  · have h1 := prune_len (runs (mems s))
    have h2 := runs_len (mems s)
    have h3 := mems_len s
    simp only [List.length_cons, List.length_append, List.length_nil]
    omega
theorem wr_len (b : Bool) (l : B) : (wr b l).length ≤ l.length + 2 := by unfold wr; split <;> simp
theorem ptm_len (mn mx : Int) : (ptm mn mx).length ≤ 5 := by unfold ptm; split; split <;> simp; split; simp; split <;> simp
theorem pn_len (t : T) : (pn t).length ≤ 2320 * sz t := by
  induction t with
  | emp => simp [pn, sz]
  | set s => have := pset_len s; show (pset s).length ≤ 2320 * 1; omega
  | seq a b iha ihb =>
    show (wr _ (pn a) ++ wr _ (pn b)).length ≤ 2320 * (sz a + sz b + 1)
    have h1 := wr_len a.isAlt (pn a)
    have h2 := wr_len (b.isAlt || b.isSeq) (pn b)
    rw [List.length_append]; omega
  | alt a b iha ihb =>
    show (pn a ++ 124 :: wr _ (pn b)).length ≤ 2320 * (sz a + sz b + 1)
    have h2 := wr_len b.isAlt (pn b)
    rw [List.length_append, List.length_cons]; omega
  | tms a mn mx iha =>
    show (wr _ (pn a) ++ ptm mn mx).length ≤ 2320 * (sz a + 1)
    have h1 := wr_len (a.isSeq || a.isAlt || a.isTms) (pn a)
    have h2 := ptm_len mn mx
    rw [List.length_append]; omega
theorem pn_short {ns : List Nd} {ps : List Pt} (h : Good ns ps) {i : Nat} (hi : i < ns.length) : (pn (tr ns i)).length ≤ 1392000 := by
  have h1 := pn_len (tr ns i)
  have h2 := sz_le h hi
  omega
/-- The kinds of trees and of nodes. -/
theorem kind_of {ns : List Nd} {ps : List Pt} (h : Good ns ps) {i : Nat} (hi : i < ns.length) : (tr ns i).isAlt = decide (ns[i].k = 4) ∧ (tr ns i).isSeq = decide (ns[i].k = 3) ∧ (tr ns i).isTms = decide (ns[i].k = 5) := by
  have hd : Dn ns := h.dn
  have hn : ns[i]? = some ns[i] := List.getElem?_eq_getElem hi
  have hm := may_kind (h.my _ (List.getElem_mem hi))
  rcases hm with e | e | e | e | e
  · rw [tr_emp hn (by omega) (by omega) (by omega) (by omega)]; simp [T.isAlt, T.isSeq, T.isTms, e]
  · rw [tr_set hn e]; simp [T.isAlt, T.isSeq, T.isTms, e]
  · rw [tr_seq hd hn e]; simp [T.isAlt, T.isSeq, T.isTms, e]
  · rw [tr_alt hd hn e]; simp [T.isAlt, T.isSeq, T.isTms, e]
  · rw [tr_tms hd hn e]; simp [T.isAlt, T.isSeq, T.isTms, e]
end Tr
end Go.Proofs.Ytebkaajnnjfhjaa
