/-
  What TallyTells asks: the document's tally, number by number. No program in sight.
-/
import Derived.Test.YtedllapajgcfeaaGreatDoorTfc
namespace Go.Proofs.YtedllapajgcfeaaGreatDoor
set_option linter.unusedVariables false
set_option linter.unusedSimpArgs false

theorem filter_canon (l : List Nat) : keepL (canonL l) = keepL l := by
  unfold keepL canonL
  induction l with
  | nil => rfl
  | cons x l ih =>
    rw [List.map_cons, List.filter_cons, List.filter_cons, odd_canon, ih]
    cases h : oddB x
    · rw [canon_plain h]
    · rfl
theorem keep_raw {l M : List Nat} (h64 : Fin64 l) (hp : M.Perm l) (hs : M.Pairwise Rle) : keepL M = keepL (canS l) := by
  have h1 : (keepL M).Perm (keepL l) := hp.filter _
  have h2 : (keepL (canS l)).Perm (keepL l) := by rw [← filter_canon l]; exact (canS_perm l).filter _
  have hc : ∀ x ∈ keepL l, Can x := fun x hx => ⟨h64 x (List.mem_filter.1 hx).1, fun k => by rw [odd_nan (keep_odd l x hx)] at k; cases k⟩
  refine map_inj (fun x hx => hc x (h1.mem_iff.1 hx)) (fun x hx => hc x (h2.mem_iff.1 hx)) ?_
  refine so_unique ?_ ?_ ((h1.trans h2.symm).map rk)
  · rw [List.pairwise_map]; exact hs.sublist List.filter_sublist
  · rw [List.pairwise_map]; exact keep_sorted l
def lst (F : List Nat) : Nat := if F = [] then 9218868437227405312 else F.getD 0 0
def grt (F : List Nat) : Nat := if F = [] then 18442240474082181120 else F.getD (F.length - 1) 0
theorem lst_add (F : List Nat) (x : Nat) : lst (F ++ [x]) = if F.length = 0 then x else lst F := by
  cases F with
  | nil => rfl
  | cons y F => rw [if_neg (by simp)]; rfl
theorem grt_add (F : List Nat) (x : Nat) : grt (F ++ [x]) = x := by
  unfold grt
  rw [if_neg (by simp)]
  have : (F ++ [x]).length - 1 = F.length := by simp
  rw [this, getD_lt (by simp)]
  simp
theorem fsum_add (F : List Nat) (x : Nat) : fsum (F ++ [x]) = fadd (fsum F) x := by
  unfold fsum
  rw [List.foldl_append]; rfl
theorem tly_of (n : Nat) (F : List Nat) (h : F.length = 0) : tly n F = ⟨n, n, lst F, grt F, 9221120237041090561⟩ ∧ n - F.length = n := by
  have : F = [] := List.eq_nil_of_length_eq_zero h
  subst this
  exact ⟨rfl, by simp⟩
theorem tly_some (n : Nat) (F : List Nat) (h : 0 < F.length) : tly n F = ⟨n, n - F.length, lst F, grt F, fdiv (fsum F) (fint F.length)⟩ := by
  have : F ≠ [] := List.length_pos_iff.1 h
  unfold tly lst grt
  rw [if_neg this, if_neg this, if_neg this]
/-- The document's test: the exponent field. -/
theorem plain_ex (x : Nat) : (Fl.ex x != 2047) = !oddB x := by
  have h := odd_iff x
  have hl := Fl.ex_lt x
  cases ho : oddB x
  · have := h.1 ho
    rw [bne_iff_ne.2 (by omega)]; rfl
  · have : Fl.ex x = 2047 := by
      by_cases c : Fl.ex x < 2047
      · rw [h.2 c] at ho; cases ho
      · omega
    rw [this]; rfl
end Go.Proofs.YtedllapajgcfeaaGreatDoor
