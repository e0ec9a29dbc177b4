/-
  The reader of layer 7 in memory: what it holds; the nodes of trees, one behind another.
-/
import Derived.Test.YtebkaajnnjfhjaaNd
import Derived.Test.YtebkaajnnjfhjaaMem
import Derived.Test.YtebkaajnnjfhjaaTC
import Derived.Test.YtebkaajnnjfhjaaSz
namespace Go.Proofs.Ytebkaajnnjfhjaa
set_option linter.unusedVariables false
set_option linter.unusedSimpArgs false
open Go.RowKit Go.Proofs.YtebkaajnnjfhjaaW.PrintWords
open Tr (Nd Pt T R)

theorem rx_drewN {B : Nat} {a w : World} (h : Below B a w) (n : Nat) : Below B a (w.drewN n) := ⟨h.os, h.tape, h.output, h.size, h.block⟩
namespace Tr
theorem sz_pos (t : T) : 1 ≤ sz t := by cases t <;> simp [sz]
def rootI (n : Nat) (t : T) : Int := (n : Int) + sz t - 1
/-- Its nodes, the first one being number n; the root is the last one. -/
def post (n : Nat) : T → List Nd
  | .emp => [⟨1, W4.zero, 0, 0, 0, 0⟩]
  | .set s => [⟨2, s, 0, 0, 0, 0⟩]
  | .seq a b => post n a ++ post (n + sz a) b ++ [⟨3, W4.zero, rootI n a, rootI (n + sz a) b, 0, 0⟩]
  | .alt a b => post n a ++ post (n + sz a) b ++ [⟨4, W4.zero, rootI n a, rootI (n + sz a) b, 0, 0⟩]
  | .tms a mn mx => post n a ++ [⟨5, W4.zero, rootI n a, 0, mn, mx⟩]
theorem post_len (t : T) : ∀ n, (post n t).length = sz t := by
  induction t with
  | emp => intro n; rfl
  | set s => intro n; rfl
  | seq a b iha ihb => intro n; simp [post, sz, iha, ihb]; omega
  | alt a b iha ihb => intro n; simp [post, sz, iha, ihb]; omega
  | tms a mn mx iha => intro n; simp [post, sz, iha]
end Tr
open Tr (sz rootI post)
/-- A node's cells, a part's. -/
def ndC (n : Nd) : List Value := [.int .u8 n.k, .int .u64 n.s.a, .int .u64 n.s.b, .int .u64 n.s.c, .int .u64 n.s.d, .int .i64 n.a, .int .i64 n.b, .int .i64 n.mn, .int .i64 n.mx]
def ptC (p : Pt) : List Value := [.int .i64 p.root, .bool p.no]
/-- The reader: block g; r is what is not read yet, p how far it is. -/
structure RS (w : World) (base g : Nat) (l r : List UInt8) (p op : Nat) (ns : List Nd) (ps : List Pt) (vN vP : Value) : Prop where
  blk : w.heap[g]? = some (.cells #[.string ⟨l.toArray⟩, .int .i64 p, .int .i64 op, vN, vP] 46 (0, 0))
  rN : w.ownsRow base 36 9 vN ns.length (ns.flatMap ndC)
  rP : w.ownsRow base 50 2 vP ps.length (ps.flatMap ptC)
  bg : base ≤ g
  dr : l.drop p = r
  pl : p + r.length = l.length
  ll : l.length ≤ 300
  op : op ≤ 16
theorem RS.below {w w' : World} {base g : Nat} {l r : List UInt8} {p op : Nat} {ns : List Nd} {ps : List Pt} {vN vP : Value} (h : RS w base g l r p op ns ps vN vP) (hb : Below w.heap.size w w') : RS w' base g l r p op ns ps vN vP :=
  ⟨blk_below h.blk hb, pw_own_below h.rN hb, pw_own_below h.rP hb, h.bg, h.dr, h.pl, h.ll, h.op⟩
theorem RS.at_ {w : World} {base g : Nat} {l r : List UInt8} {p op : Nat} {ns : List Nd} {ps : List Pt} {vN vP : Value} (h : RS w base g l r p op ns ps vN vP) (k : Nat) (hk : k ≤ r.length) : RS (w.setCell ⟨g, 1, none⟩ (.int .i64 ((p + k : Nat) : Int))) base g l (r.drop k) (p + k) op ns ps vN vP := by
  refine ⟨blk_put h.blk 1 _ rfl, own_setCell h.rN (own_ne h.rN h.blk (by decide)) _, own_setCell h.rP (own_ne h.rP h.blk (by decide)) _, h.bg, ?_, ?_, h.ll, h.op⟩
  · rw [← h.dr, List.drop_drop]
  · have := h.pl
    rw [List.length_drop]; omega
theorem RS.setOp {w : World} {base g : Nat} {l r : List UInt8} {p op : Nat} {ns : List Nd} {ps : List Pt} {vN vP : Value} (h : RS w base g l r p op ns ps vN vP) (k : Nat) (hk : k ≤ 16) : RS (w.setCell ⟨g, 2, none⟩ (.int .i64 k)) base g l r p k ns ps vN vP :=
  ⟨blk_put h.blk 2 _ rfl, own_setCell h.rN (own_ne h.rN h.blk (by decide)) _, own_setCell h.rP (own_ne h.rP h.blk (by decide)) _, h.bg, h.dr, h.pl, h.ll, hk⟩
theorem RS.cells {w : World} {base g : Nat} {l r : List UInt8} {p op : Nat} {ns : List Nd} {ps : List Pt} {vN vP : Value} (h : RS w base g l r p op ns ps vN vP) :
    w.cell? ⟨g, 0, none⟩ = some (.string ⟨l.toArray⟩) ∧ w.cell? ⟨g, 1, none⟩ = some (.int .i64 p) ∧ w.cell? ⟨g, 2, none⟩ = some (.int .i64 op) ∧ w.cell? ⟨g, 3, none⟩ = some vN ∧ w.cell? ⟨g, 4, none⟩ = some vP :=
  ⟨(blk_cell h.blk 0).trans rfl, (blk_cell h.blk 1).trans rfl, (blk_cell h.blk 2).trans rfl, (blk_cell h.blk 3).trans rfl, (blk_cell h.blk 4).trans rfl⟩
theorem RS.lt {w : World} {base g : Nat} {l r : List UInt8} {p op : Nat} {ns : List Nd} {ps : List Pt} {vN vP : Value} (h : RS w base g l r p op ns ps vN vP) : base ≤ w.heap.size := by
  have := blk_lt h.blk
  have := h.bg
  omega
theorem RS.ice {w : World} {base g : Nat} {l r : List UInt8} {p op : Nat} {ns : List Nd} {ps : List Pt} {vN vP : Value} (h : RS w base g l r p op ns ps vN vP) (k : Nat) : w.frozen? ⟨g, k, none⟩ = false := blk_frozen h.blk k
theorem RS.none_ {w : World} {base g : Nat} {l : List UInt8} {p op : Nat} {ns : List Nd} {ps : List Pt} {vN vP : Value} (h : RS w base g l [] p op ns ps vN vP) : decide (p < l.length) = false := decide_eq_false (by have := h.pl; simp at this; omega)
theorem RS.some_ {w : World} {base g : Nat} {l r : List UInt8} {c : UInt8} {p op : Nat} {ns : List Nd} {ps : List Pt} {vN vP : Value} (h : RS w base g l (c :: r) p op ns ps vN vP) : decide (p < l.length) = true ∧ ∃ hp : p < l.length, l[p] = c := by
  have := h.pl
  simp only [List.length_cons] at this
  refine ⟨decide_eq_true (by omega), by omega, ?_⟩
  have h2 : l[p]? = some c := by
    have := congrArg (·[0]?) h.dr
    simpa [List.getElem?_drop] using this
  exact (List.getElem?_eq_some_iff.1 h2).2
/-- All blocks but one are as they were. -/
def Bg (g : Nat) (w w' : World) : Prop := Below g w w' ∧ ∀ j, g < j → j < w.heap.size → w'.heap[j]? = w.heap[j]?
theorem Bg.refl (g : Nat) (w : World) : Bg g w w := ⟨Below.refl _ _, fun _ _ _ => rfl⟩
theorem Bg.trans {g : Nat} {a b c : World} (h : Bg g a b) (k : Bg g b c) : Bg g a c := ⟨h.1.trans k.1, fun j h1 h2 => (k.2 j h1 (Nat.lt_of_lt_of_le h2 h.1.size)).trans (h.2 j h1 h2)⟩
theorem Bg.drew {g : Nat} {a w : World} (h : Bg g a w) : Bg g a w.drew := ⟨h.1.drew, h.2⟩
theorem Bg.set {g : Nat} {a w : World} (h : Bg g a w) (i : Nat) (v : Value) : Bg g a (w.setCell ⟨g, i, none⟩ v) :=
  ⟨h.1.setCell (Nat.le_refl _) v, fun j h1 h2 => (Below.heap_setCell w ⟨g, i, none⟩ v j (by show j ≠ g; omega)).trans (h.2 j h1 h2)⟩
theorem Bg.call {g : Nat} {a w w' : World} (h : Bg g a w) (hg : g < a.heap.size) (hb : Below w.heap.size w w') : Bg g a w' := h.trans ⟨hb.mono (Nat.le_trans (Nat.le_of_lt hg) h.1.size), fun j _ h2 => hb.block j h2⟩
theorem RS.glt {w : World} {base g : Nat} {l r : List UInt8} {p op : Nat} {ns : List Nd} {ps : List Pt} {vN vP : Value} (h : RS w base g l r p op ns ps vN vP) : g < w.heap.size := blk_lt h.blk
theorem RS.fr {w w' : World} {base g : Nat} {l r : List UInt8} {p op : Nat} {ns : List Nd} {ps : List Pt} {vN vP : Value} (h : RS w base g l r p op ns ps vN vP) (hb : Below w.heap.size w w') : Bg g w w' := (Bg.refl g w).call h.glt hb
theorem Bg.blk {g : Nat} {a w : World} (h : Bg g a w) {j : Nat} (hj : j < a.heap.size) (hn : j ≠ g) : w.heap[j]? = a.heap[j]? := by
  rcases Nat.lt_or_gt_of_ne hn with h1 | h1
  · exact h.1.block j h1
  · exact h.2 j h1 hj
/-- What a reader panics with. -/
abbrev flt (p : Nat) (e : Int) : List PanicEntry := [{ v := .iface 43 (.agg #[.int .i64 p, .int .i64 e]), recovered := false }]
end Go.Proofs.Ytebkaajnnjfhjaa
