/-
  What law 06's TreeKnown builds: plain words.
-/
import Derived.Test.YtebkaajnnjfhjaaDoorInv
import Derived.Test.YtebkaajnnjfhjaaDoorAwk6
namespace Go.Proofs.YtebkaajnnjfhjaaDoor
set_option linter.unusedVariables false
set_option linter.unusedSimpArgs false
open Go.RowKit Go.Proofs.YtebkaajnnjfhjaaDoorW.PrintWords
open Tr (Nd Pt)

def sM : W4 := ⟨35184372088832, 0, 0, 0⟩
def sK : W4 := ⟨0, 134217728, 0, 0⟩
def sS : W4 := ⟨1, 288230436818124800, 0, 0⟩
theorem sM_eq : W4.ofList [45] = sM := by decide +kernel
theorem sK_eq : W4.ofList [91] = sK := by decide +kernel
theorem sS_eq : W4.ofList [0, 97, 98, 99, 93, 122] = sS := by decide +kernel
def nA : Nd := ⟨2, sA, 0, 0, 0, 0⟩
def oneP : List Pt := [⟨0, false⟩]
def longN : List Nd := [nA, nA, ⟨2, sM, 0, 0, 0, 0⟩, ⟨4, W4.zero, 1, 2, 0, 0⟩, ⟨5, W4.zero, 3, 0, 2, 3⟩, ⟨2, sK, 0, 0, 0, 0⟩, ⟨3, W4.zero, 4, 5, 0, 0⟩, ⟨3, W4.zero, 0, 6, 0, 0⟩]
def longP : List Pt := [⟨7, false⟩]
def setN : List Nd := [⟨2, sS, 0, 0, 0, 0⟩]
theorem nd_ok {l : List Nd} (h : ∀ n ∈ l, n.k < 256 ∧ n.s.Ok ∧ -100 ≤ n.a ∧ n.a ≤ 100 ∧ -100 ≤ n.b ∧ n.b ≤ 100 ∧ -100 ≤ n.mn ∧ n.mn ≤ 100 ∧ -100 ≤ n.mx ∧ n.mx ≤ 100) : ∀ n ∈ l, NdOk n := fun n hn => by
  obtain ⟨h1, h2, h3, h4, h5, h6, h7, h8, h9, h10⟩ := h n hn
  exact ⟨by omega, h2, by omega, by omega, by omega, by omega⟩
theorem of_blk (c : UInt8) (z : World) (g : Nat) (h : z.heap[g]? = some (.cells #[.int .u8 c.toNat] 5 (0, 0))) : Calls Tryd.prog 8 #[.slice (some ⟨g, 0, none⟩) 1 1] z fun e w' => e = .returned (.agg #[.int .u64 (W4.ofList [c]).a, .int .u64 (W4.ofList [c]).b, .int .u64 (W4.ofList [c]).c, .int .u64 (W4.ofList [c]).d]) ∧ Below z.heap.size z w' :=
  of_any g 1 [c] (by simp) z (blk_lt h) (fun j hj => by
    have : j = 0 := by simp at hj; omega
    subst this
    exact (blk_cell h 0).trans rfl)
theorem of_97 (z : World) (g : Nat) (h : z.heap[g]? = some (.cells #[.int .u8 97] 5 (0, 0))) : Calls Tryd.prog 8 #[.slice (some ⟨g, 0, none⟩) 1 1] z fun e w' => e = .returned (.agg #[.int .u64 0, .int .u64 8589934592, .int .u64 0, .int .u64 0]) ∧ Below z.heap.size z w' := by
  have := of_blk 97 z g h
  rw [sA_eq] at this
  exact this
theorem of_45 (z : World) (g : Nat) (h : z.heap[g]? = some (.cells #[.int .u8 45] 5 (0, 0))) : Calls Tryd.prog 8 #[.slice (some ⟨g, 0, none⟩) 1 1] z fun e w' => e = .returned (.agg #[.int .u64 35184372088832, .int .u64 0, .int .u64 0, .int .u64 0]) ∧ Below z.heap.size z w' := by
  have := of_blk 45 z g h
  rw [sM_eq] at this
  exact this
theorem of_91 (z : World) (g : Nat) (h : z.heap[g]? = some (.cells #[.int .u8 91] 5 (0, 0))) : Calls Tryd.prog 8 #[.slice (some ⟨g, 0, none⟩) 1 1] z fun e w' => e = .returned (.agg #[.int .u64 0, .int .u64 134217728, .int .u64 0, .int .u64 0]) ∧ Below z.heap.size z w' := by
  have := of_blk 91 z g h
  rw [sK_eq] at this
  exact this
/-- A slice of a block of its own. -/
def SlF (B n : Nat) (o : Obj) (v : Value) (z : World) : Prop := ∃ g, v = .slice (some ⟨g, 0, none⟩) n n ∧ z.heap[g]? = some o ∧ B ≤ g
theorem SlF.below {B n : Nat} {o : Obj} {v : Value} {z z' : World} (h : SlF B n o v z) (hb : Below z.heap.size z z') : SlF B n o v z' := by
  obtain ⟨g, e, hg, hB⟩ := h
  exact ⟨g, e, blk_below hg hb, hB⟩
def TrF (B : Nat) (v : Value) (z : World) : Prop := ∃ g g', v = .agg #[.slice (some ⟨g, 0, none⟩) 8 8, .slice (some ⟨g', 0, none⟩) 1 1] ∧ z.heap[g]? = some (.cells (longN.flatMap ndc).toArray 27 (0, 0)) ∧ z.heap[g']? = some (.cells (longP.flatMap ptc).toArray 30 (0, 0)) ∧ B ≤ g ∧ B ≤ g'
theorem TrF.below {B : Nat} {v : Value} {z z' : World} (h : TrF B v z) (hb : Below z.heap.size z z') : TrF B v z' := by
  obtain ⟨g, g', e, h1, h2, h3, h4⟩ := h
  exact ⟨g, g', e, blk_below h1 hb, blk_below h2 hb, h3, h4⟩
def F3 (B : Nat) (k : Nat) (v : Value) (z : World) : Prop :=
  match k with
  | 0 => v = .agg #[.int .u8 2, .int .u64 0, .int .u64 8589934592, .int .u64 0, .int .u64 0, .int .i64 0, .int .i64 0, .int .i64 0, .int .i64 0]
  | 1 => SlF B 1 (.cells #[.int .u8 97] 5 (0, 0)) v z
  | 2 => v = .agg #[.int .u64 0, .int .u64 8589934592, .int .u64 0, .int .u64 0]
  | 3 => v = .agg #[.int .u8 2, .int .u64 0, .int .u64 8589934592, .int .u64 0, .int .u64 0, .int .i64 0, .int .i64 0, .int .i64 0, .int .i64 0]
  | 4 => SlF B 1 (.cells #[.int .u8 45] 5 (0, 0)) v z
  | 5 => v = .agg #[.int .u64 35184372088832, .int .u64 0, .int .u64 0, .int .u64 0]
  | 6 => v = .agg #[.int .u8 2, .int .u64 35184372088832, .int .u64 0, .int .u64 0, .int .u64 0, .int .i64 0, .int .i64 0, .int .i64 0, .int .i64 0]
  | 7 => v = .agg #[.int .u8 4, .int .u64 0, .int .u64 0, .int .u64 0, .int .u64 0, .int .i64 1, .int .i64 2, .int .i64 0, .int .i64 0]
  | 8 => v = .agg #[.int .u8 5, .int .u64 0, .int .u64 0, .int .u64 0, .int .u64 0, .int .i64 3, .int .i64 0, .int .i64 2, .int .i64 3]
  | 9 => SlF B 1 (.cells #[.int .u8 91] 5 (0, 0)) v z
  | 10 => v = .agg #[.int .u64 0, .int .u64 134217728, .int .u64 0, .int .u64 0]
  | 11 => v = .agg #[.int .u8 2, .int .u64 0, .int .u64 134217728, .int .u64 0, .int .u64 0, .int .i64 0, .int .i64 0, .int .i64 0, .int .i64 0]
  | 12 => v = .agg #[.int .u8 3, .int .u64 0, .int .u64 0, .int .u64 0, .int .u64 0, .int .i64 4, .int .i64 5, .int .i64 0, .int .i64 0]
  | 13 => v = .agg #[.int .u8 3, .int .u64 0, .int .u64 0, .int .u64 0, .int .u64 0, .int .i64 0, .int .i64 6, .int .i64 0, .int .i64 0]
  | 14 => SlF B 8 (.cells (longN.flatMap ndc).toArray 27 (0, 0)) v z
  | 15 => v = .agg #[.int .i64 7, .bool false]
  | 16 => SlF B 1 (.cells (longP.flatMap ptc).toArray 30 (0, 0)) v z
  | 17 => TrF B v z
  | 18 => ∃ g, v = .pointer (some ⟨g, 0, none⟩) ∧ z.heap[g]? = some (.cells #[.slice none 0 0, .slice none 0 0] 33 (0, 0)) ∧ B ≤ g
  | _ => True
theorem F3.below {B : Nat} (k : Nat) (v : Value) (z z' : World) (h : F3 B k v z) (hb : Below z.heap.size z z') : F3 B k v z' := by
  unfold F3 at *
  split at h
  all_goals first
    | exact h
    | exact SlF.below h hb
    | exact TrF.below h hb
    | (obtain ⟨g, e, hg, hB⟩ := h; exact ⟨g, e, blk_below hg hb, hB⟩)
theorem StepIs.mk {P : Program} {ops : Array Oper} {Q : Exit → Act → World → Prop} {A : (Nat → Value) → Act} {F : Nat → Value → World → Prop} {w0 : World} {k : Nat} {o : Oper} (h1 : ∀ x v, (A x).put o.dst v = A (upd x k v)) (h2 : ∀ x w, Below w0.heap.size w0 w → (∀ e ∈ o.after, Region.binds .any e = true → F e.on (x e.on) w) →
    wpOp P ops Q k (fun a' w' => ∃ v, a' = (A x).put o.dst v ∧ Below w.heap.size w w' ∧ F k v w') (A x) w) : StepIs P ops Q A F w0 k o := ⟨h1, h2⟩
theorem StepsAre.cons {P : Program} {ops : Array Oper} {Q : Exit → Act → World → Prop} {A : (Nat → Value) → Act} {F : Nat → Value → World → Prop} {w0 : World} {k : Nat} {o : Oper} {os : List Oper} (h1 : StepIs P ops Q A F w0 k o) (h2 : StepsAre P ops Q A F w0 (k + 1) os) : StepsAre P ops Q A F w0 k (o :: os) := ⟨h1, h2⟩
theorem StepsAre.nil {P : Program} {ops : Array Oper} {Q : Exit → Act → World → Prop} {A : (Nat → Value) → Act} {F : Nat → Value → World → Prop} {w0 : World} {k : Nat} : StepsAre P ops Q A F w0 k [] := trivial
theorem of_6 (W : World) (g : Nat) (hg : W.heap.size = g) : Calls Tryd.prog 8 #[.slice (some ⟨g, 0, none⟩) 6 6] (W.alloc (.cells #[.int .u8 0, .int .u8 97, .int .u8 98, .int .u8 99, .int .u8 93, .int .u8 122] 5)) fun e w' => e = .returned (.agg #[.int .u64 1, .int .u64 288230436818124800, .int .u64 0, .int .u64 0]) ∧ Below (W.alloc (.cells #[.int .u8 0, .int .u8 97, .int .u8 98, .int .u8 99, .int .u8 93, .int .u8 122] 5)).heap.size (W.alloc (.cells #[.int .u8 0, .int .u8 97, .int .u8 98, .int .u8 99, .int .u8 93, .int .u8 122] 5)) w' := by
  subst hg
  have hn := blk_new W (.cells #[.int .u8 0, .int .u8 97, .int .u8 98, .int .u8 99, .int .u8 93, .int .u8 122] 5)
  have := of_any W.heap.size 6 [0, 97, 98, 99, 93, 122] (by simp) _ (blk_lt hn) (fun j hj => by
    have h6 : j < 6 := hj
    refine (blk_cell hn j).trans ?_
    obtain rfl | rfl | rfl | rfl | rfl | rfl : j = 0 ∨ j = 1 ∨ j = 2 ∨ j = 3 ∨ j = 4 ∨ j = 5 := by omega
    all_goals rfl)
  rw [sS_eq] at this
  exact this
theorem words_of {z : World} {A A' : Option Addr} {ns : List Nd} {ps : List Pt} (h : TreeAt z A A' ns ps) : Tr.Words ns := fun n hn => (h.nok n hn).s
theorem kprint {z : World} {A A' : Option Addr} {ns : List Nd} {ps : List Pt} (n m : Nat) (l : List UInt8) (h : TreeAt z A A' ns ps) (hL : Laid z) (hn : ns.length = n) (hm : ps.length = m) (hl : Tr.print ns ps = l) : Calls Tryd.prog 9 #[.agg #[.slice A n n, .slice A' m m]] z fun e w' => e = .returned (.string ⟨l.toArray⟩) ∧ Below z.heap.size z w' := by
  subst hn hm hl
  exact print_any _ _ (words_of h) z h hL
theorem kplaces {z : World} {A A' : Option Addr} {ns : List Nd} {ps : List Pt} (n m : Nat) (x : Int) (h : TreeAt z A A' ns ps) (hn : ns.length = n) (hm : ps.length = m) (hl : ((Tr.places ns ps : Nat) : Int) = x) : Calls Tryd.prog 10 #[.agg #[.slice A n n, .slice A' m m]] z fun e w' => e = .returned (.int .i64 x) ∧ Below z.heap.size z w' := by
  subst hn hm hl
  exact places_any _ _ h
theorem kdepth {z : World} {A A' : Option Addr} {ns : List Nd} {ps : List Pt} (n m : Nat) (x : Int) (h : TreeAt z A A' ns ps) (hn : ns.length = n) (hm : ps.length = m) (hl : ((Tr.depth ns ps : Nat) : Int) = x) : Calls Tryd.prog 11 #[.agg #[.slice A n n, .slice A' m m]] z fun e w' => e = .returned (.int .i64 x) ∧ Below z.heap.size z w' := by
  subst hn hm hl
  exact depth_any _ _ h
theorem kright {z : World} {A A' : Option Addr} {ns : List Nd} {ps : List Pt} (n m : Nat) (x : Bool) (h : TreeAt z A A' ns ps) (hn : ns.length = n) (hm : ps.length = m) (hl : Tr.right ns ps = x) : Calls Tryd.prog 12 #[.agg #[.slice A n n, .slice A' m m]] z fun e w' => e = .returned (.bool x) ∧ Below z.heap.size z w' := by
  subst hn hm hl
  exact right_any _ _ h
theorem ok_sA : sA.Ok := by unfold W4.Ok sA; decide
theorem ok_sM : sM.Ok := by unfold W4.Ok sM; decide
theorem ok_sK : sK.Ok := by unfold W4.Ok sK; decide
theorem ok_sS : sS.Ok := by unfold W4.Ok sS; decide
def NdFine (n : Nd) : Prop := n.k < 256 ∧ n.s.Ok ∧ -100 ≤ n.a ∧ n.a ≤ 100 ∧ -100 ≤ n.b ∧ n.b ≤ 100 ∧ -100 ≤ n.mn ∧ n.mn ≤ 100 ∧ -100 ≤ n.mx ∧ n.mx ≤ 100
theorem fine_cons {n : Nd} {l : List Nd} (h : NdFine n) (hl : ∀ m ∈ l, NdOk m) : ∀ m ∈ n :: l, NdOk m := by
  intro m hm
  rcases List.mem_cons.1 hm with rfl | hm
  · exact nd_ok (l := [m]) (fun q hq => by rw [List.mem_singleton.1 hq]; exact h) m (by simp)
  · exact hl m hm
theorem fine_nil : ∀ m ∈ ([] : List Nd), NdOk m := fun m hm => by cases hm
theorem tree_at {z : World} {g g' : Nat} {t t' : TypeId} {ns : List Nd} {ps : List Pt} (h1 : z.heap[g]? = some (.cells (ns.flatMap ndc).toArray t (0, 0))) (h2 : z.heap[g']? = some (.cells (ps.flatMap ptc).toArray t' (0, 0))) (hn : ∀ n ∈ ns, NdOk n) (hp : ∀ p ∈ ps, -9223372036854775808 ≤ p.root ∧ p.root ≤ 9223372036854775807) (l1 : ns.length ≤ 9223372036854775807) (l2 : ps.length ≤ 9223372036854775807) : TreeAt z (some ⟨g, 0, none⟩) (some ⟨g', 0, none⟩) ns ps :=
  ⟨NodesAt.blk h1, PartsAt.blk h2, hn, hp, l1, l2⟩
theorem ok_oneT : ∀ m ∈ [nA], NdOk m := fine_cons ⟨by decide, ok_sA, by decide, by decide, by decide, by decide, by decide, by decide, by decide, by decide⟩ fine_nil
theorem ok_set : ∀ m ∈ setN, NdOk m := fine_cons ⟨by decide, ok_sS, by decide, by decide, by decide, by decide, by decide, by decide, by decide, by decide⟩ fine_nil
theorem ok_long : ∀ m ∈ longN, NdOk m := fine_cons ⟨by decide, ok_sA, by decide, by decide, by decide, by decide, by decide, by decide, by decide, by decide⟩ (fine_cons ⟨by decide, ok_sA, by decide, by decide, by decide, by decide, by decide, by decide, by decide, by decide⟩ (fine_cons ⟨by decide, ok_sM, by decide, by decide, by decide, by decide, by decide, by decide, by decide, by decide⟩ (fine_cons ⟨by decide, W4.ok_zero, by decide, by decide, by decide, by decide, by decide, by decide, by decide, by decide⟩ (fine_cons ⟨by decide, W4.ok_zero, by decide, by decide, by decide, by decide, by decide, by decide, by decide, by decide⟩ (fine_cons ⟨by decide, ok_sK, by decide, by decide, by decide, by decide, by decide, by decide, by decide, by decide⟩ (fine_cons ⟨by decide, W4.ok_zero, by decide, by decide, by decide, by decide, by decide, by decide, by decide, by decide⟩ (fine_cons ⟨by decide, W4.ok_zero, by decide, by decide, by decide, by decide, by decide, by decide, by decide, by decide⟩ fine_nil)))))))
theorem pr_one : Tr.print [nA] oneP = [97] := by decide +kernel
theorem pl_one : ((Tr.places [nA] oneP : Nat) : Int) = 1 := by decide +kernel
theorem dp_one : ((Tr.depth [nA] oneP : Nat) : Int) = 1 := by decide +kernel
theorem pr_long : Tr.print longN longP = [97, 40, 40, 97, 124, 45, 41, 123, 50, 44, 51, 125, 92, 91, 41] := by decide +kernel
theorem pl_long : ((Tr.places longN longP : Nat) : Int) = 8 := by decide +kernel
theorem dp_long : ((Tr.depth longN longP : Nat) : Int) = 5 := by decide +kernel
theorem pr_set : Tr.print setN oneP = [91, 92, 120, 48, 48, 92, 93, 97, 45, 99, 122, 93] := by decide +kernel
theorem NodesAt.nil (z : World) : NodesAt z none [] := fun i hi => by simp at hi
theorem PartsAt.nil (z : World) : PartsAt z none [] := fun i hi => by simp at hi
theorem add_zero_at (g n : Nat) : (⟨g, 0, none⟩ : Addr).add n = ⟨g, n, none⟩ := by unfold Addr.add; split <;> simp_all
theorem name_world {B : Nat} {w z : World} (h : Below B w z) : ∃ y, y = z ∧ Below B w y := ⟨z, rfl, h⟩
theorem fineA : NdFine nA := ⟨by decide, ok_sA, by decide, by decide, by decide, by decide, by decide, by decide, by decide, by decide⟩
def n51 : Nd := ⟨5, W4.zero, 0, 0, 0, 1⟩
def n11 : Nd := ⟨1, W4.zero, 0, 0, 0, 1⟩
def n52 : Nd := ⟨5, W4.zero, 0, 0, 2, -1⟩
def n5t : Nd := ⟨5, W4.zero, 0, 0, 0, 10⟩
def n60 : Nd := ⟨6, W4.zero, 0, 0, 0, 0⟩
theorem fine51 : NdFine n51 := ⟨by decide, W4.ok_zero, by decide, by decide, by decide, by decide, by decide, by decide, by decide, by decide⟩
theorem fine11 : NdFine n11 := ⟨by decide, W4.ok_zero, by decide, by decide, by decide, by decide, by decide, by decide, by decide, by decide⟩
theorem fine52 : NdFine n52 := ⟨by decide, W4.ok_zero, by decide, by decide, by decide, by decide, by decide, by decide, by decide, by decide⟩
theorem fine5t : NdFine n5t := ⟨by decide, W4.ok_zero, by decide, by decide, by decide, by decide, by decide, by decide, by decide, by decide⟩
theorem fine60 : NdFine n60 := ⟨by decide, W4.ok_zero, by decide, by decide, by decide, by decide, by decide, by decide, by decide, by decide⟩
def p1 : List Pt := [⟨1, false⟩]
def p00 : List Pt := [⟨0, false⟩, ⟨0, false⟩]
theorem wrong_print {ns : List Nd} {ps : List Pt} (h : Tr.right ns ps = false) : Tr.print ns ps = [] := by unfold Tr.print; rw [h]; rfl
theorem wrong_places {ns : List Nd} {ps : List Pt} (h : Tr.right ns ps = false) : ((Tr.places ns ps : Nat) : Int) = 0 := by unfold Tr.places; rw [h]; rfl
theorem wrong_depth {ns : List Nd} {ps : List Pt} (h : Tr.right ns ps = false) : ((Tr.depth ns ps : Nat) : Int) = 0 := by unfold Tr.depth; rw [h]; rfl
end Go.Proofs.YtebkaajnnjfhjaaDoor
