/-
  A row of numbers, one of each node, filled from the first on. No program in sight.
-/
import Derived.Test.YtebkaajnnjfhjaaDoorTT
namespace Go.Proofs.YtebkaajnnjfhjaaDoor
set_option linter.unusedVariables false
set_option linter.unusedSimpArgs false
namespace Tr

def vals (F : Nat → Int) (k n : Nat) : List Int := (List.range n).map fun j => if j < k then F j else 0
theorem vals_len (F : Nat → Int) (k n : Nat) : (vals F k n).length = n := by simp [vals]
theorem vals_zero (F : Nat → Int) (n : Nat) : vals F 0 n = List.replicate n 0 := by
  refine List.ext_getElem (by simp [vals]) fun i h1 h2 => ?_
  simp [vals]
theorem vals_succ (F : Nat → Int) (k n : Nat) : (vals F k n).set k (F k) = vals F (k + 1) n := by
  refine List.ext_getElem (by simp [vals]) fun i h1 h2 => ?_
  rw [List.getElem_set]
  split
  · rename_i e; subst e; simp [vals]
  · rename_i e
    simp only [vals, List.getElem_map, List.getElem_range]
    by_cases h : i < k
    · rw [if_pos h, if_pos (by omega)]
    · rw [if_neg h, if_neg (by omega)]
theorem vals_full (F : Nat → Int) (n : Nat) : vals F n n = (List.range n).map F := by
  refine List.ext_getElem (by simp [vals]) fun i h1 h2 => ?_
  have : i < n := by simpa [vals] using h1
  simp [vals, this]
theorem vals_start (F : Nat → Int) (k n : Nat) (hk : k < n) : (vals F k n).set k 0 = vals F k n := by
  refine List.ext_getElem (by simp) fun i h1 h2 => ?_
  rw [List.getElem_set]
  split
  · rename_i e; subst e; simp [vals]
  · rfl
theorem row_len (F : Nat → Int) (k n : Nat) (a : Int) : ((vals F k n).set k a).length = n := by simp [vals]
theorem row_at (F : Nat → Int) (k n : Nat) (a : Int) (h : k < ((vals F k n).set k a).length) : ((vals F k n).set k a)[k] = a := by simp
theorem row_below (F : Nat → Int) (k n c : Nat) (a : Int) (hc : c < k) (h : c < ((vals F k n).set k a).length) : ((vals F k n).set k a)[c] = F c := by
  rw [List.getElem_set, if_neg (by omega)]
  simp [vals, hc]
theorem row_set (F : Nat → Int) (k n : Nat) (a b : Int) : ((vals F k n).set k a).set k b = (vals F k n).set k b := by simp
/-- The depths and the places, as the program takes them. -/
def accM (ns : List Nd) (l : List Int) : Int := l.foldl (fun a c => max a (dep (tr ns c.toNat) : Int)) 0
theorem accM_snoc (ns : List Nd) (l : List Int) (c : Int) : accM ns (l ++ [c]) = max (accM ns l) (dep (tr ns c.toNat) : Int) := by unfold accM; rw [List.foldl_append]; rfl
theorem accM_end {ns : List Nd} (hd : Dn ns) (hm : ∀ n ∈ ns, may n = true) {k : Nat} (hk : k < ns.length) : accM ns (below ns[k]) + 1 = (dep (tr ns k) : Int) := by
  have hn : ns[k]? = some ns[k] := List.getElem?_eq_getElem hk
  have hmk := hm _ (List.getElem_mem hk)
  generalize ns[k] = n at hn hmk
  rcases may_kind hmk with e | e | e | e | e
  · rw [tr_emp hn (by omega) (by omega) (by omega) (by omega)]; simp [below, e, accM, dep]
  · rw [tr_set hn e]; simp [below, e, accM, dep]
  · rw [tr_seq hd hn e]
    show _ = ((max (dep _) (dep _) + 1 : Nat) : Int)
    simp [below, e, accM]; omega
  · rw [tr_alt hd hn e]
    show _ = ((max (dep _) (dep _) + 1 : Nat) : Int)
    simp [below, e, accM]; omega
  · rw [tr_tms hd hn e]
    show _ = ((dep _ + 1 : Nat) : Int)
    simp [below, e, accM]
theorem accM_bd {ns : List Nd} (hd : Dn ns) {k : Nat} (l : List Int) (hl : ∀ c ∈ l, 0 ≤ c ∧ c < (k : Int)) : 0 ≤ accM ns l ∧ accM ns l ≤ k := by
  have key : ∀ (l : List Int) (a : Int), 0 ≤ a → a ≤ k → (∀ c ∈ l, 0 ≤ c ∧ c < (k : Int)) → 0 ≤ l.foldl (fun a c => max a (dep (tr ns c.toNat) : Int)) a ∧ l.foldl (fun a c => max a (dep (tr ns c.toNat) : Int)) a ≤ k := by
    intro l
    induction l with
    | nil => intro a h0 h1 _; exact ⟨h0, h1⟩
    | cons c l ih =>
      intro a h0 h1 h
      have hc := h c (by simp)
      have := dep_le hd _ c.toNat (Nat.lt_succ_self _)
      exact ih _ (by show 0 ≤ max a _; omega) (by show max a _ ≤ _; omega) fun x hx => h x (by simp [hx])
  exact key l 0 (by omega) (by omega) hl
def accP (ns : List Nd) (a : Int) (l : List Int) : Int := l.foldl (fun a c => min (a + (plc (tr ns c.toNat) : Int)) 1073741824) a
theorem accP_snoc (ns : List Nd) (a : Int) (l : List Int) (c : Int) : accP ns a (l ++ [c]) = min (accP ns a l + (plc (tr ns c.toNat) : Int)) 1073741824 := by unfold accP; rw [List.foldl_append]; rfl
theorem accP_bd (ns : List Nd) (a : Int) (l : List Int) (h0 : 0 ≤ a) (h1 : a ≤ 1073741824) : 0 ≤ accP ns a l ∧ accP ns a l ≤ 1073741824 := by
  unfold accP
  induction l generalizing a with
  | nil => exact ⟨h0, h1⟩
  | cons c l ih => exact ih _ (by show 0 ≤ min (a + _) _; omega) (by show min (a + _) _ ≤ _; omega)
theorem accP_end {ns : List Nd} (hd : Dn ns) (hm : ∀ n ∈ ns, may n = true) {k : Nat} (hk : k < ns.length) :
    (if ns[k].k = 5 ∧ 0 ≤ ns[k].mx then min (accP ns (if ns[k].k = 2 then 1 else 0) (below ns[k]) * ns[k].mx) 1073741824 else accP ns (if ns[k].k = 2 then 1 else 0) (below ns[k])) = (plc (tr ns k) : Int) := by
  have hn : ns[k]? = some ns[k] := List.getElem?_eq_getElem hk
  have hmk := hm _ (List.getElem_mem hk)
  generalize ns[k] = n at hn hmk
  have hc := plc_le
  rcases may_kind hmk with e | e | e | e | e
  · rw [tr_emp hn (by omega) (by omega) (by omega) (by omega)]; simp [below, e, accP, plc]
  · rw [tr_set hn e]; simp [below, e, accP, plc]
  · rw [tr_seq hd hn e, if_neg (by omega), if_neg (by omega)]
    have h1 := hc (tr ns n.a.toNat)
    have h2 := hc (tr ns n.b.toNat)
    unfold cap at h1 h2
    show _ = ((min (plc _ + plc _) cap : Nat) : Int)
    unfold cap
    simp [below, e, accP]; omega
  · rw [tr_alt hd hn e, if_neg (by omega), if_neg (by omega)]
    have h1 := hc (tr ns n.a.toNat)
    have h2 := hc (tr ns n.b.toNat)
    unfold cap at h1 h2
    show _ = ((min (plc _ + plc _) cap : Nat) : Int)
    unfold cap
    simp [below, e, accP]; omega
  · have h1 := hc (tr ns n.a.toNat)
    unfold cap at h1
    rw [tr_tms hd hn e, if_neg (show ¬ n.k = 2 by omega)]
    have ea : accP ns 0 (below n) = (plc (tr ns n.a.toNat) : Int) := by simp [below, e, accP]; omega
    rw [ea]
    by_cases hx : 0 ≤ n.mx
    · rw [if_pos ⟨e, hx⟩]
      show _ = ((if 0 ≤ n.mx then min (plc _ * n.mx.toNat) cap else _ : Nat) : Int)
      rw [if_pos hx]
      obtain ⟨m, hm⟩ := Int.eq_ofNat_of_zero_le hx
      rw [hm, Int.toNat_natCast]
      unfold cap
      omega
    · rw [if_neg (fun h => hx h.2)]
      show _ = ((if 0 ≤ n.mx then _ else plc _ : Nat) : Int)
      rw [if_neg hx]
end Tr
end Go.Proofs.YtebkaajnnjfhjaaDoor
