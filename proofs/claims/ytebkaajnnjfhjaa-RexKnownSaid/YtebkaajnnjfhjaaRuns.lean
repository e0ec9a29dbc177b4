/-
  Runs of bytes, taken one by one. No program in sight.
-/
import Derived.Test.YtebkaajnnjfhjaaTB
namespace Go.Proofs.Ytebkaajnnjfhjaa
set_option linter.unusedVariables false
set_option linter.unusedSimpArgs false
namespace Tr

theorem runs_head (y : UInt8) (t : B) : ∃ z r, runs (y :: t) = (y, z) :: r := by
  rw [runs]
  rcases runs t with _ | ⟨⟨a, b⟩, q⟩
  · exact ⟨y, [], rfl⟩
  · simp only
    split
    · exact ⟨b, q, rfl⟩
    · exact ⟨y, (a, b) :: q, rfl⟩
theorem runs_cut (n : Nat) : ∀ (m : B) (x : UInt8) (t : B), m = x :: t → n < m.length → (∀ j, j ≤ n → (h : j < m.length) → m[j].toNat = x.toNat + j) → ((h : n + 1 < m.length) → m[n + 1].toNat ≠ x.toNat + (n + 1)) → (hn : n < m.length) → runs m = (x, m[n]) :: runs (m.drop (n + 1)) := by
  induction n with
  | zero =>
    intro m x t hm hn h1 h2 hn'
    subst hm
    rcases t with _ | ⟨y, t⟩
    · rfl
    · have := h2 (by simp)
      simp at this
      rw [runs]
      obtain ⟨z, r, e⟩ := runs_head y t
      rw [e]
      simp only [List.drop_succ_cons, List.drop_zero, List.getElem_cons_zero]
      rw [if_neg this, e]
  | succ n ih =>
    intro m x t hm hn h1 h2 hn'
    subst hm
    rcases t with _ | ⟨y, t⟩
    · simp at hn
    · have hy : y.toNat = x.toNat + 1 := by
        have := h1 1 (by omega) (by simp)
        simpa using this
      have := ih (y :: t) y t rfl (by simpa using hn) (fun j hj h => by
        have := h1 (j + 1) (by omega) (by simpa using h)
        simp only [List.getElem_cons_succ] at this
        rw [this, hy]; omega) (fun h => by
        have := h2 (by simpa using h)
        simp only [List.getElem_cons_succ] at this ⊢
        rw [hy]
        omega) (by simpa using hn)
      rw [runs, this]
      simp only [hy, if_true, List.drop_succ_cons, List.getElem_cons_succ]
theorem one_len4 (c : UInt8) (l : B) : (one c l).length ≤ 4 := by unfold one; split; simp; split <;> simp
theorem prun_len (r : UInt8 × UInt8) : (prun r).length ≤ 9 := by
  unfold prun
  have h1 := one_len4 r.1 inside
  have h2 := one_len4 r.2 inside
  rw [List.length_append, List.length_append]
  split <;> split <;> simp <;> omega
/-- As many in a row as the program finds, from one place to another. -/
theorem runs_from (l : B) (i k : Nat) (hi : i < k) (hk : k ≤ l.length) (h1 : ∀ j (h : j < l.length), i ≤ j → j < k → (l[j].toNat : Nat) = (l[i]'(by omega)).toNat + (j - i)) (h2 : (h : k < l.length) → l[k].toNat ≠ (l[i]'(by omega)).toNat + (k - i)) :
    runs (l.drop i) = (l[i]'(by omega), l[k - 1]'(by omega)) :: runs (l.drop k) := by
  have hil : i < l.length := by omega
  have hg : ∀ j (h : j < (l.drop i).length), (l.drop i)[j] = l[i + j]'(by simp at h; omega) := fun j h => by simp
  have := runs_cut (k - i - 1) (l.drop i) l[i] (l.drop (i + 1)) (List.drop_eq_getElem_cons hil) (by simp; omega) (fun j hj h => by
    rw [hg, h1 (i + j) _ (by omega) (by omega)]
    omega) (fun h => by
    rw [hg]
    have h' : k < l.length := by simp at h; omega
    have := h2 h'
    have e : i + (k - i - 1 + 1) = k := by omega
    simp only [e]
    omega) (by simp; omega)
  rw [this, List.drop_drop]
  have e1 : i + (k - i - 1) = k - 1 := by omega
  have e2 : i + (k - i - 1 + 1) = k := by omega
  rw [hg]
  simp only [e1, e2]
/-- What a run's print adds, step by step. -/
theorem prun_steps (a b : UInt8) (i k : Nat) (hi : i < k) (h : b.toNat = a.toNat + (k - 1 - i)) : prun (a, b) = one a inside ++ ((if i + 2 < k then [45] else []) ++ (if i + 1 < k then one b inside else [])) := by
  unfold prun
  have e1 : (a.toNat + 1 < b.toNat) ↔ i + 2 < k := by omega
  have e2 : (a.toNat < b.toNat) ↔ i + 1 < k := by omega
  simp only [e1, e2]
end Tr
end Go.Proofs.Ytebkaajnnjfhjaa
