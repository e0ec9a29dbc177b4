/-
  Rows that are turned by exchanges: what stays, what a sorted row is. No program in sight.
-/
import Derived.Test.YtedllapajgcfeaaGreatDoorRk
import Derived.Test.YtedllapajgcfeaaGreatDoorIns
namespace Go.Proofs.YtedllapajgcfeaaGreatDoor
set_option linter.unusedVariables false
set_option linter.unusedSimpArgs false

/-- M is L but for exchanges within [a, b). -/
structure Pm (a b : Nat) (L M : List Nat) : Prop where
  len : M.length = L.length
  out : ∀ i, (i < a ∨ b ≤ i) → M.getD i 0 = L.getD i 0
  all : ∀ P : Nat → Prop, (∀ i, a ≤ i → i < b → P (L.getD i 0)) → ∀ i, a ≤ i → i < b → P (M.getD i 0)
  perm : M.Perm L
theorem Pm.refl (a b : Nat) (L : List Nat) : Pm a b L L := ⟨rfl, fun _ _ => rfl, fun _ h => h, .refl _⟩
theorem Pm.trans {a b : Nat} {L M R : List Nat} (h : Pm a b L M) (k : Pm a b M R) : Pm a b L R :=
  ⟨k.len.trans h.len, fun i hi => (k.out i hi).trans (h.out i hi), fun P hP => k.all P (h.all P hP), k.perm.trans h.perm⟩
theorem Pm.wide {a b c d : Nat} {L M : List Nat} (h : Pm a b L M) (h1 : c ≤ a) (h2 : b ≤ d) : Pm c d L M := by
  refine ⟨h.len, fun i hi => h.out i (by omega), fun P hP i hi1 hi2 => ?_, h.perm⟩
  by_cases hc : a ≤ i ∧ i < b
  · exact h.all P (fun k hk1 hk2 => hP k (by omega) (by omega)) i hc.1 hc.2
  · rw [h.out i (by omega)]; exact hP i hi1 hi2
def sw (L : List Nat) (i j : Nat) : List Nat := (L.set i (L.getD j 0)).set j (L.getD i 0)
theorem sw_len (L : List Nat) (i j : Nat) : (sw L i j).length = L.length := by simp [sw]
theorem getD_set (L : List Nat) (i k x : Nat) (h : i < L.length) : (L.set i x).getD k 0 = if k = i then x else L.getD k 0 := by
  rw [List.getD_eq_getElem?_getD, List.getElem?_set, List.getD_eq_getElem?_getD]
  by_cases e : k = i
  · subst e; simp [h]
  · rw [if_neg (Ne.symm e), if_neg e]
theorem sw_at (L : List Nat) (i j k : Nat) (hi : i < L.length) (hj : j < L.length) : (sw L i j).getD k 0 = if k = j then L.getD i 0 else if k = i then L.getD j 0 else L.getD k 0 := by
  unfold sw
  rw [getD_set _ _ _ _ (by simp; exact hj), getD_set _ _ _ _ hi]
theorem sw_perm (L : List Nat) (i j : Nat) (hi : i < L.length) (hj : j < L.length) : (sw L i j).Perm L := by
  unfold sw
  have e1 : L.getD i 0 = L[i] := by rw [List.getD_eq_getElem?_getD, List.getElem?_eq_getElem hi]; rfl
  have e2 : L.getD j 0 = L[j] := by rw [List.getD_eq_getElem?_getD, List.getElem?_eq_getElem hj]; rfl
  rw [e1, e2]
  exact List.set_set_perm hi hj
theorem sw_pm {a b : Nat} (L : List Nat) (i j : Nat) (hi : i < L.length) (hj : j < L.length) (h1 : a ≤ i) (h2 : i < b) (h3 : a ≤ j) (h4 : j < b) : Pm a b L (sw L i j) := by
  refine ⟨sw_len _ _ _, fun k hk => ?_, fun P hP k hk1 hk2 => ?_, sw_perm L i j hi hj⟩
  · rw [sw_at _ _ _ _ hi hj, if_neg (by omega), if_neg (by omega)]
  · rw [sw_at _ _ _ _ hi hj]
    split
    · exact hP i h1 h2
    · split
      · exact hP j h3 h4
      · exact hP k hk1 hk2
theorem Fin64.perm {L M : List Nat} (h : Fin64 L) (p : M.Perm L) : Fin64 M := fun x hx => h x (p.mem_iff.1 hx)
theorem Pm.fin {a b : Nat} {L M : List Nat} (p : Pm a b L M) (h : Fin64 L) : Fin64 M := h.perm p.perm
/-- In order from a to b. -/
def So (a b : Nat) (L : List Nat) : Prop := ∀ p q, a ≤ p → p < q → q < b → rk (L.getD p 0) ≤ rk (L.getD q 0)
/-- In order, but that what stands at j may sink. -/
def Sb (a n j : Nat) (L : List Nat) : Prop := ∀ p q, a ≤ p → p < q → q < n → q ≠ j → rk (L.getD p 0) ≤ rk (L.getD q 0)
theorem So.sb {a i : Nat} {L : List Nat} (h : So a i L) : Sb a (i + 1) i L := fun p q h1 h2 h3 h4 => h p q h1 h2 (by omega)
theorem So.le {a b c d : Nat} {L : List Nat} (h : So a b L) (h1 : a ≤ c) (h2 : d ≤ b) : So c d L := fun p q k1 k2 k3 => h p q (by omega) k2 (by omega)
theorem So.nil (a b : Nat) (L : List Nat) (h : b ≤ a + 1) : So a b L := fun p q h1 h2 h3 => by omega
theorem So.of_out {a b : Nat} {L M : List Nat} (h : So a b L) (e : ∀ i, a ≤ i → i < b → M.getD i 0 = L.getD i 0) : So a b M := fun p q h1 h2 h3 => by rw [e p (by omega) (by omega), e q (by omega) (by omega)]; exact h p q h1 h2 h3
theorem Sb.step {a n j : Nat} {L : List Nat} (h : Sb a n (j + 1) L) (hj : a ≤ j) (hn : j + 1 < n) (hl : n ≤ L.length) (hlt : rk (L.getD (j + 1) 0) < rk (L.getD j 0)) : Sb a n j (sw L (j + 1) j) := by
  intro p q h1 h2 h3 h4
  have e := fun k => sw_at L (j + 1) j k (by omega) (by omega)
  rw [e p, e q]
  by_cases q1 : q = j + 1
  · subst q1
    rw [if_neg (show ¬ j + 1 = j by omega), if_pos (show j + 1 = j + 1 from rfl)]
    by_cases p1 : p = j
    · rw [if_pos p1]; omega
    · rw [if_neg p1, if_neg (show ¬ p = j + 1 by omega)]
      exact h p j h1 (by omega) (by omega) (by omega)
  · rw [if_neg (show ¬ q = j from h4), if_neg q1]
    by_cases p1 : p = j
    · rw [if_pos p1]; exact h (j + 1) q (by omega) (by omega) h3 q1
    · rw [if_neg p1]
      by_cases p2 : p = j + 1
      · rw [if_pos p2]; exact h j q hj (by omega) h3 q1
      · rw [if_neg p2]; exact h p q h1 h2 h3 q1
theorem Sb.stop {a n j : Nat} {L : List Nat} (h : Sb a n (j + 1) L) (hj : a ≤ j) (hn : j + 1 < n) (hle : rk (L.getD j 0) ≤ rk (L.getD (j + 1) 0)) : So a n L := by
  intro p q h1 h2 h3
  by_cases q1 : q = j + 1
  · subst q1
    by_cases p1 : p = j
    · rw [p1]; exact hle
    · exact Int.le_trans (h p j h1 (by omega) (by omega) (by omega)) hle
  · exact h p q h1 h2 h3 q1
theorem Sb.top {a n : Nat} {L : List Nat} (h : Sb a n a L) : So a n L := fun p q h1 h2 h3 => h p q h1 h2 h3 (by omega)
/-- Nothing in [a, b) is ahead of what stands before it. -/
def Lo (a b : Nat) (L : List Nat) : Prop := ∀ i j, i < a → i + 1 = a → a ≤ j → j < b → rk (L.getD i 0) ≤ rk (L.getD j 0)
theorem Lo.pm {a b c d : Nat} {L M : List Nat} (h : Lo a b L) (p : Pm c d L M) (h1 : a ≤ c) (h2 : d ≤ b) : Lo a b M := by
  intro i j hi hi' hj1 hj2
  rw [p.out i (by omega)]
  exact (p.wide h1 h2).all (fun x => rk (L.getD i 0) ≤ rk x) (fun k hk1 hk2 => h i k hi hi' hk1 hk2) j hj1 hj2
theorem Lo.le {a b c : Nat} {L : List Nat} (h : Lo a b L) (h2 : c ≤ b) : Lo a c L := fun i j hi hi' h1 h3 => h i j hi hi' h1 (by omega)
/-- All pairs but those within [a, b) are in order. -/
def Dn (a0 b0 a b : Nat) (L : List Nat) : Prop := ∀ p q, a0 ≤ p → p < q → q < b0 → (p < a ∨ b ≤ q) → rk (L.getD p 0) ≤ rk (L.getD q 0)
theorem Dn.start (a b : Nat) (L : List Nat) : Dn a b a b L := fun p q h1 h2 h3 h4 => by omega
theorem Dn.pm {a0 b0 a b : Nat} {L M : List Nat} (h : Dn a0 b0 a b L) (p : Pm a b L M) (h1 : a0 ≤ a) (h2 : b ≤ b0) : Dn a0 b0 a b M := by
  intro i j hi1 hi2 hi3 hi4
  by_cases ci : a ≤ i ∧ i < b
  · rw [p.out j (by omega)]
    exact p.all (fun x => rk x ≤ rk (L.getD j 0)) (fun k hk1 hk2 => h k j (by omega) (by omega) hi3 (by omega)) i ci.1 ci.2
  · rw [p.out i (by omega)]
    by_cases cj : a ≤ j ∧ j < b
    · exact p.all (fun x => rk (L.getD i 0) ≤ rk x) (fun k hk1 hk2 => h i k hi1 (by omega) (by omega) (by omega)) j cj.1 cj.2
    · rw [p.out j (by omega)]; exact h i j hi1 hi2 hi3 hi4
theorem Dn.so {a0 b0 a b : Nat} {L : List Nat} (h : Dn a0 b0 a b L) (k : So a b L) : So a0 b0 L := by
  intro p q h1 h2 h3
  by_cases c : p < a ∨ b ≤ q
  · exact h p q h1 h2 h3 c
  · exact k p q (by omega) h2 (by omega)
theorem Dn.lo {a0 b0 a b : Nat} {L : List Nat} (h : Dn a0 b0 a b L) (k : Lo a0 b0 L) (h1 : a0 ≤ a) (h2 : b ≤ b0) : Lo a b L := by
  intro i j hi hi' hj1 hj2
  by_cases c : a0 ≤ i
  · exact h i j c (by omega) (by omega) (by omega)
  · exact k i j (by omega) (by omega) (by omega) (by omega)
/-- Behind a partition and the sort of its left part: the right one is left. -/
theorem Dn.left {a0 b0 a b m : Nat} {L : List Nat} (h : Dn a0 b0 a b L) (ha : a ≤ m) (hb : m < b) (hs : So a m L) (hl : ∀ i, a ≤ i → i < m → rk (L.getD i 0) ≤ rk (L.getD m 0)) (hr : ∀ i, m < i → i < b → rk (L.getD m 0) ≤ rk (L.getD i 0)) : Dn a0 b0 (m + 1) b L := by
  intro p q h1 h2 h3 h4
  by_cases c : p < a ∨ b ≤ q
  · exact h p q h1 h2 h3 c
  · by_cases cp : p = m
    · subst cp; exact hr q h2 (by omega)
    · by_cases cq : q = m
      · subst cq; exact hl p (by omega) h2
      · by_cases cq2 : q < m
        · exact hs p q (by omega) h2 cq2
        · exact Int.le_trans (hl p (by omega) (by omega)) (hr q (by omega) (by omega))
theorem Dn.right {a0 b0 a b m : Nat} {L : List Nat} (h : Dn a0 b0 a b L) (ha : a ≤ m) (hb : m < b) (hs : So (m + 1) b L) (hl : ∀ i, a ≤ i → i < m → rk (L.getD i 0) ≤ rk (L.getD m 0)) (hr : ∀ i, m < i → i < b → rk (L.getD m 0) ≤ rk (L.getD i 0)) : Dn a0 b0 a m L := by
  intro p q h1 h2 h3 h4
  by_cases c : p < a ∨ b ≤ q
  · exact h p q h1 h2 h3 c
  · by_cases cp : p = m
    · subst cp; exact hr q h2 (by omega)
    · by_cases cq : q = m
      · subst cq; exact hl p (by omega) h2
      · by_cases cp2 : m < p
        · exact hs p q (by omega) h2 (by omega)
        · exact Int.le_trans (hl p (by omega) (by omega)) (hr q (by omega) (by omega))
/-- Behind a partition by an element that nothing is ahead of. -/
theorem Dn.equal {a0 b0 a b m : Nat} {L : List Nat} {x : Int} (h : Dn a0 b0 a b L) (hl : ∀ i, a ≤ i → i < m → rk (L.getD i 0) = x) (hr : ∀ i, m ≤ i → i < b → x ≤ rk (L.getD i 0)) : Dn a0 b0 m b L := by
  intro p q h1 h2 h3 h4
  by_cases c : p < a ∨ b ≤ q
  · exact h p q h1 h2 h3 c
  · rw [hl p (by omega) (by omega)]
    by_cases cq : q < m
    · rw [hl q (by omega) cq]; exact Int.le_refl _
    · exact hr q (by omega) (by omega)
/-- A heap of the places from f on: from lo to hi. -/
def Hp (f lo hi : Nat) (L : List Nat) : Prop := ∀ k c, lo ≤ k → (c = 2 * k + 1 ∨ c = 2 * k + 2) → c < hi → rk (L.getD (f + c) 0) ≤ rk (L.getD (f + k) 0)
/-- One, but that what stands at r may sink. -/
def Hb (f lo hi r : Nat) (L : List Nat) : Prop := (∀ k c, lo ≤ k → k ≠ r → (c = 2 * k + 1 ∨ c = 2 * k + 2) → c < hi → rk (L.getD (f + c) 0) ≤ rk (L.getD (f + k) 0)) ∧ (∀ k c, lo ≤ k → (r = 2 * k + 1 ∨ r = 2 * k + 2) → (c = 2 * r + 1 ∨ c = 2 * r + 2) → c < hi → rk (L.getD (f + c) 0) ≤ rk (L.getD (f + k) 0))
theorem Hp.hb {f lo hi : Nat} {L : List Nat} (h : Hp f (lo + 1) hi L) : Hb f lo hi lo L := ⟨fun k c h1 h2 h3 h4 => h k c (by omega) h3 h4, fun k c h1 h2 h3 h4 => by omega⟩
theorem Hb.stop {f lo hi r : Nat} {L : List Nat} (h : Hb f lo hi r L) (hr : ∀ c, (c = 2 * r + 1 ∨ c = 2 * r + 2) → c < hi → rk (L.getD (f + c) 0) ≤ rk (L.getD (f + r) 0)) : Hp f lo hi L := by
  intro k c h1 h2 h3
  by_cases e : k = r
  · subst e; exact hr c h2 h3
  · exact h.1 k c h1 e h2 h3
theorem Hb.step {f lo hi r d : Nat} {L : List Nat} (h : Hb f lo hi r L) (hlo : lo ≤ r) (hd : d = 2 * r + 1 ∨ d = 2 * r + 2) (hdh : d < hi) (hl : f + hi ≤ L.length) (hlt : rk (L.getD (f + r) 0) < rk (L.getD (f + d) 0)) (hmx : ∀ c, (c = 2 * r + 1 ∨ c = 2 * r + 2) → c < hi → rk (L.getD (f + c) 0) ≤ rk (L.getD (f + d) 0)) : Hb f lo hi d (sw L (f + r) (f + d)) := by
  have e := fun k => sw_at L (f + r) (f + d) k (by omega) (by omega)
  constructor
  · intro k c h1 h2 h3 h4
    rw [e, e]
    by_cases hkr : k = r
    · subst hkr
      rw [if_neg (show ¬ f + k = f + d by omega), if_pos rfl]
      by_cases hcd : c = d
      · subst hcd; rw [if_pos rfl]; omega
      · rw [if_neg (by omega), if_neg (by omega)]; exact hmx c h3 h4
    · rw [if_neg (show ¬ f + k = f + d by omega), if_neg (show ¬ f + k = f + r by omega)]
      by_cases hcd : c = d
      · omega
      · rw [if_neg (by omega)]
        by_cases hcr : c = r
        · subst hcr
          rw [if_pos rfl]
          exact h.2 k d h1 h3 hd hdh
        · rw [if_neg (by omega)]
          exact h.1 k c h1 hkr h3 h4
  · intro k c h1 h2 h3 h4
    have hk : k = r := by omega
    subst hk
    rw [e, e, if_neg (by omega), if_neg (by omega), if_neg (by omega), if_pos rfl]
    exact h.1 d c (by omega) (by omega) h3 h4
theorem Hp.top {f hi : Nat} {L : List Nat} (h : Hp f 0 hi L) : ∀ k, k < hi → rk (L.getD (f + k) 0) ≤ rk (L.getD (f + 0) 0) := by
  intro k
  induction k using Nat.strongRecOn with
  | _ k ih =>
    intro hk
    by_cases h0 : k = 0
    · subst h0; exact Int.le_refl _
    · exact Int.le_trans (h ((k - 1) / 2) k (by omega) (by omega) hk) (ih ((k - 1) / 2) (by omega) (by omega))
theorem Hp.le {f lo hi hi' : Nat} {L : List Nat} (h : Hp f lo hi L) (h2 : hi' ≤ hi) : Hp f lo hi' L := fun k c h1 h3 h4 => h k c h1 h3 (by omega)
/-- Two rows in order with the same numbers have the same ranks. -/
theorem so_pairwise {L : List Nat} (h : So 0 L.length L) : (L.map rk).Pairwise (· ≤ ·) := by
  rw [List.pairwise_iff_getElem]
  intro i j hi hj hij
  simp at hi hj
  have := h i j (by omega) hij hj
  rw [List.getD_eq_getElem?_getD, List.getElem?_eq_getElem hi, List.getD_eq_getElem?_getD, List.getElem?_eq_getElem hj] at this
  simpa using this
theorem so_unique {L M : List Int} (h : L.Pairwise (· ≤ ·)) (k : M.Pairwise (· ≤ ·)) (p : L.Perm M) : L = M := by
  induction L generalizing M with
  | nil => exact (List.nil_perm.1 p).symm
  | cons x L ih =>
    cases M with
    | nil => exact absurd (List.perm_nil.1 p) (by simp)
    | cons y M =>
      have h1 := List.pairwise_cons.1 h
      have k1 := List.pairwise_cons.1 k
      have hx : x ∈ y :: M := p.mem_iff.1 (by simp)
      have hy : y ∈ x :: L := p.mem_iff.2 (by simp)
      have e : x = y := by
        rcases List.mem_cons.1 hx with e | hx'
        · exact e
        · rcases List.mem_cons.1 hy with e | hy'
          · exact e.symm
          · exact Int.le_antisymm (h1.1 y hy') (k1.1 x hx')
      subst e
      rw [ih h1.2 k1.2 (List.Perm.cons_inv p)]
end Go.Proofs.YtedllapajgcfeaaGreatDoor
