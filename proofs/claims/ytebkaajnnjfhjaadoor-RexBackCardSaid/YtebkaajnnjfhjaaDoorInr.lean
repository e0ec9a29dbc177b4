/-
  A drawn region in whatever order: what each operation leaves is kept by all that come later; the last one waits for all others.
-/
import Derived.Test.YtebkaajnnjfhjaaDoorRd
import Derived.Deep.RegionLaw
import Derived.Deep.RegionHeld3
namespace Go.Proofs.YtebkaajnnjfhjaaDoor
set_option linter.unusedVariables false
set_option linter.unusedSimpArgs false
open Go.RowKit

section
variable {P : Program} {ops : Array Oper} {Q : Exit → Act → World → Prop}

def leftN (L : Array Bool) : Nat → Nat
  | 0 => 0
  | n + 1 => leftN L n + if L.getD n true then 0 else 1
theorem getD_set_self (L : Array Bool) (i : Nat) : (L.setIfInBounds i true).getD i true = true := by
  rcases Nat.lt_or_ge i L.size with h | h
  · simp [h]
  · simp [Array.getElem?_eq_none h, h]
theorem getD_set (L : Array Bool) (i j : Nat) : (L.setIfInBounds i true).getD j true = if i = j then true else L.getD j true := by
  by_cases h : i = j
  · subst h; rw [if_pos rfl, getD_set_self]
  · rw [if_neg h, getD_set_ne true h]
theorem leftN_le (L : Array Bool) (i n : Nat) : leftN (L.setIfInBounds i true) n ≤ leftN L n := by
  induction n with
  | zero => exact Nat.le_refl _
  | succ n ih =>
    unfold leftN
    rw [getD_set]
    by_cases h : i = n
    · rw [if_pos h]; simp; omega
    · rw [if_neg h]; omega
theorem leftN_lt (L : Array Bool) (i n : Nat) (hi : i < n) (h : L.getD i true = false) : leftN (L.setIfInBounds i true) n + 1 ≤ leftN L n := by
  induction n with
  | zero => omega
  | succ n ih =>
    unfold leftN
    rw [getD_set]
    by_cases e : i = n
    · subst e
      have := leftN_le L i i
      rw [if_pos rfl, h]; simp; omega
    · have := ih (by omega)
      rw [if_neg e]; omega
theorem leftN_zero (L : Array Bool) (n j : Nat) (hj : j < n) (h : leftN L n = 0) : L.getD j true = true := by
  induction n with
  | zero => omega
  | succ n ih =>
    unfold leftN at h
    by_cases e : j = n
    · subst e
      by_cases hb : L.getD j true = true
      · exact hb
      · rw [if_neg hb] at h; omega
    · exact ih (by omega) (by omega)
theorem any_inv (I : Array Bool → Act → World → Prop)
    (hstep : ∀ L a w i, i ∈ Region.ready .any ops L → I L a w → wpOp P ops Q i (fun a' w' => I (L.setIfInBounds i true) a' w') a w)
    (hdone : ∀ L a w, I L a w → Region.ready .any ops L = [] → Q .normal a w) :
    ∀ fuel L a w, leftN L ops.size ≤ fuel → I L a w → wpAny P .any ops Q fuel L a w
  | 0, L, a, w, hl, hI => by
    have hr : Region.ready .any ops L = [] := by
      rw [List.eq_nil_iff_forall_not_mem]
      intro i hi
      obtain ⟨h0, o, ho, _⟩ := mem_ready.1 hi
      have := leftN_zero L ops.size i (Array.getElem?_eq_some_iff.1 ho).1 (by omega)
      rw [h0] at this
      cases this
    exact ⟨hr, hdone L a w hI hr⟩
  | fuel + 1, L, a, w, hl, hI => ⟨hdone L a w hI, fun i hi => by
      obtain ⟨h0, o, ho, _⟩ := mem_ready.1 hi
      have hlt := leftN_lt L i ops.size (Array.getElem?_eq_some_iff.1 ho).1 h0
      exact wpOp_mono (fun a' w' h => any_inv I hstep hdone fuel _ a' w' (by omega) h) (hstep L a w i hi hI)⟩

def upd (x : Nat → Value) (i : Nat) (v : Value) : Nat → Value := fun j => if j = i then v else x j
theorem upd_self (x : Nat → Value) (i : Nat) (v : Value) : upd x i v i = v := by unfold upd; rw [if_pos rfl]
theorem upd_ne (x : Nat → Value) {i j : Nat} (v : Value) (h : j ≠ i) : upd x i v j = x j := by unfold upd; rw [if_neg h]
def StepIs (P : Program) (ops : Array Oper) (Q : Exit → Act → World → Prop) (A : (Nat → Value) → Act) (F : Nat → Value → World → Prop) (w0 : World) (k : Nat) (o : Oper) : Prop :=
  (∀ x v, (A x).put o.dst v = A (upd x k v)) ∧ ∀ x w, Below w0.heap.size w0 w → (∀ e ∈ o.after, Region.binds .any e = true → F e.on (x e.on) w) →
    wpOp P ops Q k (fun a' w' => ∃ v, a' = (A x).put o.dst v ∧ Below w.heap.size w w' ∧ F k v w') (A x) w
def StepsAre (P : Program) (ops : Array Oper) (Q : Exit → Act → World → Prop) (A : (Nat → Value) → Act) (F : Nat → Value → World → Prop) (w0 : World) : Nat → List Oper → Prop
  | _, [] => True
  | k, o :: os => StepIs P ops Q A F w0 k o ∧ StepsAre P ops Q A F w0 (k + 1) os
theorem StepsAre.at {A : (Nat → Value) → Act} {F : Nat → Value → World → Prop} {w0 : World} : ∀ {os : List Oper} {k : Nat}, StepsAre P ops Q A F w0 k os → ∀ {j : Nat} {o : Oper}, os[j]? = some o → StepIs P ops Q A F w0 (k + j) o
  | [], _, _, j, o, ho => by simp at ho
  | o' :: os, k, h, 0, o, ho => by
    simp at ho; subst ho; exact h.1
  | o' :: os, k, h, j + 1, o, ho => by
    have := StepsAre.at h.2 (j := j) (o := o) (by simpa using ho)
    rw [show k + (j + 1) = k + 1 + j by omega]
    exact this
/-- Each operation ahead of the last one is waited for by a later one. -/
def usedOk (ops : Array Oper) (n : Nat) : Bool := (List.range n).all fun j => (List.range (n + 1)).any fun i => decide (j < i) && ((ops[i]?).map fun o => o.after.any fun e => Region.binds .any e && e.on == j).getD false
/-- Each waits for earlier ones alone. -/
def depsOk (ops : Array Oper) (n : Nat) : Bool := (List.range (n + 1)).all fun i => ((ops[i]?).map fun o => o.after.all fun e => !Region.binds .any e || decide (e.on < i)).getD true
def Clos (ops : Array Oper) (L : Array Bool) : Prop := ∀ j o, ops[j]? = some o → L.getD j false = true → ∀ e ∈ o.after, Region.binds .any e = true → L.getD e.on false = true
theorem all_listed {n : Nat} (hu : usedOk ops n = true) {L : Array Bool} (hC : Clos ops L) {o : Oper} (ho : ops[n]? = some o) (hl : ∀ e ∈ o.after, Region.binds .any e = true → L.getD e.on false = true) : ∀ m j, n - j ≤ m → j < n → L.getD j false = true := by
  intro m
  induction m with
  | zero => intro j h1 h2; omega
  | succ m ih =>
    intro j h1 h2
    unfold usedOk at hu
    rw [List.all_eq_true] at hu
    have := hu j (List.mem_range.2 h2)
    rw [List.any_eq_true] at this
    obtain ⟨i, hi, hx⟩ := this
    rw [Bool.and_eq_true, decide_eq_true_iff] at hx
    obtain ⟨hji, hx⟩ := hx
    have hin := List.mem_range.1 hi
    cases hoi : ops[i]? with
    | none => rw [hoi] at hx; simp at hx
    | some oi =>
      rw [hoi] at hx
      simp only [Option.map_some, Option.getD_some, Array.any_eq_true] at hx
      obtain ⟨q, hq, hx⟩ := hx
      rw [Bool.and_eq_true, beq_iff_eq] at hx
      have hmem : oi.after[q] ∈ oi.after := Array.getElem_mem hq
      by_cases e : i = n
      · subst e
        rw [ho] at hoi
        cases hoi
        have := hl _ hmem hx.1
        rw [hx.2] at this
        exact this
      · have := hC i oi hoi (ih i (by omega) (by omega)) _ hmem hx.1
        rw [hx.2] at this
        exact this
theorem size_set (L : Array Bool) (i : Nat) : (L.setIfInBounds i true).size = L.size := Array.size_setIfInBounds
theorem getD_both {L : Array Bool} {j : Nat} (h : j < L.size) : L.getD j true = L.getD j false := by simp [Array.getD, h]
theorem region_by {id : Nat} {a : Act} {w : World} (n : Nat) (hm : P.follows .mixedOrders = true) (hn : ops.size = n + 1) (A : (Nat → Value) → Act) (x0 : Nat → Value) (ha : a = A x0) (F : Nat → Value → World → Prop)
    (hst : ∀ i v w w', F i v w → Below w.heap.size w w' → F i v w') (hd : depsOk ops n = true) (hu : usedOk ops n = true)
    (hsteps : StepsAre P ops Q A F { w with drawn := w.drawn + 1 } 0 (ops.toList.take n))
    (hlast : ∀ x w', Below w.heap.size { w with drawn := w.drawn + 1 } w' → (∀ j, j < n → F j (x j) w') → wpOp P ops Q n (fun a' w'' => Q .normal a' w'') (A x) w') :
    (Code.region id ops true).wp P Q a w := by
  refine wp_region_any hm ?_
  subst ha
  refine any_inv (fun L a w' => L.size = n + 1 ∧ ((Q .normal a w' ∧ ∀ j, j ≤ n → L.getD j false = true) ∨ (L.getD n false = false ∧ Clos ops L ∧ ∃ x, a = A x ∧ Below w.heap.size { w with drawn := w.drawn + 1 } w' ∧ ∀ j, j < n → L.getD j false = true → F j (x j) w'))) ?_ ?_ _ _ _ _ ?_ ?_
  · intro L a w' i hi hI
    obtain ⟨hs, hI⟩ := hI
    obtain ⟨h0, o, ho, hall⟩ := mem_ready.1 hi
    have hin : i < n + 1 := by have := (Array.getElem?_eq_some_iff.1 ho).1; omega
    have h0' : L.getD i false = false := by rw [← getD_both (by omega)]; exact h0
    rcases hI with ⟨hq, hx⟩ | ⟨hnf, hC, x, rfl, hb, hF⟩
    · have := hx i (by omega)
      rw [h0'] at this
      cases this
    · by_cases e : i = n
      · subst e
        have hal := all_listed hu hC ho hall i
        refine wpOp_mono (fun a' w'' hq => ⟨by rw [size_set]; exact hs, Or.inl ⟨hq, fun j hj => ?_⟩⟩) (hlast x w' hb fun j hj => hF j hj (hal j (by omega) hj))
        by_cases ej : i = j
        · subst ej
          rw [← getD_both (by rw [size_set]; omega), getD_set_self]
        · exact getD_set_true (hal j (by omega) (by omega))
      · have hgo : (ops.toList.take n)[i]? = some o := by
          rw [List.getElem?_take_of_lt (by omega), Array.getElem?_toList]
          exact ho
        have hS := hsteps.at hgo
        rw [Nat.zero_add] at hS
        have hdone : ∀ e ∈ o.after, Region.binds .any e = true → e.on < i := by
          unfold depsOk at hd
          rw [List.all_eq_true] at hd
          have := hd i (List.mem_range.2 hin)
          rw [ho] at this
          simp only [Option.map_some, Option.getD_some, Array.all_eq_true_iff_forall_mem] at this
          intro e he hbd
          have := this e he
          rw [hbd] at this
          simpa using this
        refine wpOp_mono (fun a' w'' hq => ⟨by rw [size_set]; exact hs, Or.inr ?_⟩) (hS.2 x w' hb fun e he hbd => hF e.on (by have := hdone e he hbd; omega) (hall e he hbd))
        obtain ⟨v, rfl, hb2, hFi⟩ := hq
        refine ⟨by rw [getD_set_ne false e]; exact hnf, ?_, upd x i v, hS.1 x v, hb.trans (hb2.mono hb.size), ?_⟩
        · intro j o' ho' hj
          by_cases ej : i = j
          · subst ej
            rw [ho] at ho'
            cases ho'
            exact fun e he hbd => getD_set_true (hall e he hbd)
          · rw [getD_set_ne false ej] at hj
            exact fun e he hbd => getD_set_true (hC j o' ho' hj e he hbd)
        · intro j hj hl
          by_cases ej : i = j
          · subst ej
            rw [upd_self]; exact hFi
          · rw [getD_set_ne false ej] at hl
            rw [upd_ne x v (Ne.symm ej)]
            exact hst _ _ _ _ (hF j hj hl) hb2
  · intro L a w' hI hr
    obtain ⟨hs, hI⟩ := hI
    rcases hI with ⟨hq, hx⟩ | ⟨hnf, hC, x, rfl, hb, hF⟩
    · exact hq
    · exfalso
      have hall : ∀ m i, i < m → i ≤ n → L.getD i false = true := by
        intro m
        induction m with
        | zero => intro i h; omega
        | succ m ih =>
          intro i him hin
          by_cases hx : L.getD i false = true
          · exact hx
          · exfalso
            have hlt : i < ops.size := by omega
            have ho : ops[i]? = some ops[i] := Array.getElem?_eq_getElem hlt
            have : i ∈ Region.ready .any ops L := by
              refine mem_ready.2 ⟨by rw [getD_both (by omega)]; simpa using hx, ops[i], ho, fun e he hbd => ?_⟩
              unfold depsOk at hd
              rw [List.all_eq_true] at hd
              have := hd i (List.mem_range.2 (by omega))
              rw [ho] at this
              simp only [Option.map_some, Option.getD_some, Array.all_eq_true_iff_forall_mem] at this
              have := this e he
              rw [hbd] at this
              have hlt2 : e.on < i := by simpa using this
              exact ih e.on (by omega) (by omega)
            rw [hr] at this
            cases this
      have := hall (n + 1) n (by omega) (by omega)
      rw [hnf] at this
      cases this
  · have : ∀ m, leftN (Array.replicate ops.size false) m ≤ m := by
      intro m
      induction m with
      | zero => exact Nat.le_refl _
      | succ m ih => unfold leftN; split <;> omega
    exact this _
  · refine ⟨by simp [hn], Or.inr ⟨?_, ?_, x0, rfl, Below.refl _ _, ?_⟩⟩
    · simp [hn]
    · intro j o ho hj
      exfalso
      have hlt := (Array.getElem?_eq_some_iff.1 ho).1
      simp [hlt] at hj
    · intro j hj hl
      exfalso
      have hlt : j < ops.size := by omega
      simp [hlt] at hl
end
theorem StepIs.mk {P : Program} {ops : Array Oper} {Q : Exit → Act → World → Prop} {A : (Nat → Value) → Act} {F : Nat → Value → World → Prop} {w0 : World} {k : Nat} {o : Oper} (h1 : ∀ x v, (A x).put o.dst v = A (upd x k v)) (h2 : ∀ x w, Below w0.heap.size w0 w → (∀ e ∈ o.after, Region.binds .any e = true → F e.on (x e.on) w) →
    wpOp P ops Q k (fun a' w' => ∃ v, a' = (A x).put o.dst v ∧ Below w.heap.size w w' ∧ F k v w') (A x) w) : StepIs P ops Q A F w0 k o := ⟨h1, h2⟩
theorem StepsAre.cons {P : Program} {ops : Array Oper} {Q : Exit → Act → World → Prop} {A : (Nat → Value) → Act} {F : Nat → Value → World → Prop} {w0 : World} {k : Nat} {o : Oper} {os : List Oper} (h1 : StepIs P ops Q A F w0 k o) (h2 : StepsAre P ops Q A F w0 (k + 1) os) : StepsAre P ops Q A F w0 k (o :: os) := ⟨h1, h2⟩
theorem StepsAre.nil {P : Program} {ops : Array Oper} {Q : Exit → Act → World → Prop} {A : (Nat → Value) → Act} {F : Nat → Value → World → Prop} {w0 : World} {k : Nat} : StepsAre P ops Q A F w0 k [] := trivial
end Go.Proofs.YtebkaajnnjfhjaaDoor
