/-
  What Right counts. No program in sight.
-/
import Derived.Test.YtebkaajnnjfhjaaDoorTT
namespace Go.Proofs.YtebkaajnnjfhjaaDoor
set_option linter.unusedVariables false
set_option linter.unusedSimpArgs false
namespace Tr

/-- How often each of n numbers stands in a row. -/
def cntL (D : List Int) (n : Nat) : List Int := (List.range n).map fun (k : Nat) => (D.count (k : Int) : Int)
theorem cntL_len (D : List Int) (n : Nat) : (cntL D n).length = n := by simp [cntL]
theorem cntL_nil (n : Nat) : cntL [] n = List.replicate n 0 := by
  refine List.ext_getElem (by simp [cntL]) fun i h1 h2 => ?_
  simp [cntL]
theorem cntL_get (D : List Int) (n k : Nat) (h : k < (cntL D n).length) : (cntL D n)[k] = (D.count (k : Int) : Int) := by simp [cntL]
theorem cntL_bump (D : List Int) (n k : Nat) (x : Int) (hx : x = (D.count (k : Int) : Int) + 1) : (cntL D n).set k x = cntL (D ++ [(k : Int)]) n := by
  refine List.ext_getElem (by simp [cntL]) fun i h1 h2 => ?_
  rw [List.getElem_set, cntL_get]
  split
  · rename_i e
    subst e
    rw [hx, cntL_get, List.count_append]; simp
  · rename_i e
    rw [cntL_get, List.count_append, List.count_eq_zero_of_not_mem (l := [(k : Int)]) (by simp; omega)]; simp
def doneN (ns : List Nd) (k : Nat) : List Int := (ns.take k).flatMap below
theorem doneN_succ (ns : List Nd) (k : Nat) (h : k < ns.length) : doneN ns (k + 1) = doneN ns k ++ below ns[k] := by
  unfold doneN
  rw [List.take_succ_eq_append_getElem h, List.flatMap_append]; simp
theorem doneN_all (ns : List Nd) (k : Nat) (h : ns.length ≤ k) : doneN ns k = ns.flatMap below := by unfold doneN; rw [List.take_of_length_le h]
theorem below_len (n : Nd) : (below n).length ≤ 2 := by rcases below_cases n with ⟨_, e⟩ | ⟨_, e⟩ | ⟨_, _, _, e⟩ <;> rw [e] <;> simp
theorem doneN_len (ns : List Nd) (k : Nat) : (doneN ns k).length ≤ 2 * k := by
  induction k with
  | zero => simp [doneN]
  | succ k ih =>
    by_cases h : k < ns.length
    · rw [doneN_succ ns k h, List.length_append]; have := below_len ns[k]; omega
    · have e : doneN ns (k + 1) = doneN ns k := by rw [doneN_all ns _ (by omega), doneN_all ns _ (by omega)]
      rw [e]; omega
def doneP (ns : List Nd) (ps : List Pt) (k : Nat) : List Int := ns.flatMap below ++ (ps.take k).map Pt.root
theorem doneP_succ (ns : List Nd) (ps : List Pt) (k : Nat) (h : k < ps.length) : doneP ns ps (k + 1) = doneP ns ps k ++ [ps[k].root] := by
  unfold doneP
  rw [List.take_succ_eq_append_getElem h, List.map_append, List.append_assoc]; simp
theorem doneP_len (ns : List Nd) (ps : List Pt) (k : Nat) : (doneP ns ps k).length ≤ 2 * ns.length + k := by
  unfold doneP
  have h1 := doneN_len ns ns.length
  rw [doneN_all ns _ (Nat.le_refl _)] at h1
  rw [List.length_append, List.length_map, List.length_take]; omega
/-- All up to a number use such as stand ahead. -/
def DnTo (ns : List Nd) (k : Nat) : Prop := ∀ i, i < k → ∀ c ∈ ch ns i, 0 ≤ c ∧ c < (i : Int)
theorem ch_get (ns : List Nd) (k : Nat) (h : k < ns.length) : ch ns k = below ns[k] := by unfold ch; rw [List.getElem?_eq_getElem h]
theorem DnTo.succ {ns : List Nd} {k : Nat} (h : DnTo ns k) (hk : k < ns.length) (hc : ∀ c ∈ below ns[k], 0 ≤ c ∧ c < (k : Int)) : DnTo ns (k + 1) := by
  intro i hi c hcc
  by_cases e : i = k
  · subst e; rw [ch_get ns i hk] at hcc; exact hc c hcc
  · exact h i (by omega) c hcc
theorem DnTo.all {ns : List Nd} {k : Nat} (h : DnTo ns k) (hk : ns.length ≤ k) : inDn ns = true := by
  unfold inDn
  rw [List.all_eq_true]
  intro i hi
  rw [List.all_eq_true]
  intro c hc
  have hi' : i < ns.length := by simpa using hi
  exact decide_eq_true (h i (by omega) c hc)
theorem right_bad {ns : List Nd} (ps : List Pt) {k : Nat} (hk : k < ns.length) {c : Int} (hc : c ∈ below ns[k]) (hb : ¬ (0 ≤ c ∧ c < (k : Int))) : right ns ps = false := by
  have : inDn ns = false := by
    cases e : inDn ns with
    | false => rfl
    | true =>
      have := (inDn_iff ns).1 e k ns[k] (List.getElem?_eq_getElem hk) c hc
      exact absurd this hb
  unfold right
  rw [this]; simp
theorem right_badp (ns : List Nd) {ps : List Pt} {k : Nat} (hk : k < ps.length) (hb : ¬ (0 ≤ ps[k].root ∧ ps[k].root < (ns.length : Int))) : right ns ps = false := by
  have : inRt ns ps = false := by
    unfold inRt
    rw [List.all_eq_false]
    exact ⟨ps[k], List.getElem_mem hk, by simpa using hb⟩
  unfold right
  rw [this]; simp
def RtTo (ns : List Nd) (ps : List Pt) (k : Nat) : Prop := ∀ p ∈ ps.take k, 0 ≤ p.root ∧ p.root < (ns.length : Int)
theorem RtTo.succ {ns : List Nd} {ps : List Pt} {k : Nat} (h : RtTo ns ps k) (hk : k < ps.length) (hc : 0 ≤ ps[k].root ∧ ps[k].root < (ns.length : Int)) : RtTo ns ps (k + 1) := by
  intro p hp
  rw [List.take_succ_eq_append_getElem hk, List.mem_append] at hp
  rcases hp with hp | hp
  · exact h p hp
  · simp only [List.mem_cons, List.not_mem_nil, or_false] at hp
    subst hp; exact hc
theorem right_end {ns : List Nd} {ps : List Pt} (g : 1 ≤ ps.length ∧ ps.length ≤ 20 ∧ ns.length ≤ 600) (hd : DnTo ns ns.length) (hr : RtTo ns ps ps.length) :
    right ns ps = (!((cntL (doneP ns ps ps.length) ns.length).any (· != 1)) && !(ns.any fun n => !may n)) := by
  unfold right
  rw [decide_eq_true g, hd.all (Nat.le_refl _)]
  have e : inRt ns ps = true := by
    unfold inRt
    rw [List.all_eq_true]
    intro p hp
    exact decide_eq_true (hr p (by rw [List.take_of_length_le (Nat.le_refl _)]; exact hp))
  rw [e, Bool.true_and, Bool.true_and, Bool.true_and]
  congr 1
  · rw [Bool.eq_iff_iff, List.all_eq_true, Bool.not_eq_true', List.any_eq_false]
    unfold cntL doneP uses
    rw [List.take_of_length_le (Nat.le_refl _)]
    constructor
    · intro h x hx
      obtain ⟨k, hk, rfl⟩ := List.mem_map.1 hx
      have := h k hk
      rw [beq_iff_eq] at this
      rw [this]; simp
    · intro h k hk
      have := h _ (List.mem_map.2 ⟨k, hk, rfl⟩)
      rw [beq_iff_eq]
      simp only [bne_iff_ne, ne_eq, Decidable.not_not] at this
      omega
  · rw [Bool.eq_iff_iff, List.all_eq_true, Bool.not_eq_true', List.any_eq_false]
    constructor
    · intro h n hn; simp [h n hn]
    · intro h n hn; simpa using h n hn
theorem right_len {ns : List Nd} {ps : List Pt} (g : ¬ (1 ≤ ps.length ∧ ps.length ≤ 20 ∧ ns.length ≤ 600)) : right ns ps = false := by
  unfold right
  rw [decide_eq_false g]; rfl
end Tr
end Go.Proofs.YtebkaajnnjfhjaaDoor
