/-
  A tree in memory: its nodes and parts in their cells.
-/
import Derived.Test.YtebkaajnnjfhjaaDoorMay
import Derived.Test.YtebkaajnnjfhjaaDoorInts
namespace Go.Proofs.YtebkaajnnjfhjaaDoor
set_option linter.unusedVariables false
set_option linter.unusedSimpArgs false
open Go.RowKit Go.Proofs.YtebkaajnnjfhjaaDoorW.PrintWords
open Tr (Nd Pt)

/-- A node's cells, from an address on. -/
structure NdAt (W : World) (p : Addr) (n : Nd) : Prop where
  c0 : W.cell? p = some (.int .u8 n.k)
  c1 : W.cell? ⟨p.block, p.off + 1, none⟩ = some (.int .u64 n.s.a)
  c2 : W.cell? ⟨p.block, p.off + 2, none⟩ = some (.int .u64 n.s.b)
  c3 : W.cell? ⟨p.block, p.off + 3, none⟩ = some (.int .u64 n.s.c)
  c4 : W.cell? ⟨p.block, p.off + 4, none⟩ = some (.int .u64 n.s.d)
  c5 : W.cell? ⟨p.block, p.off + 5, none⟩ = some (.int .i64 n.a)
  c6 : W.cell? ⟨p.block, p.off + 6, none⟩ = some (.int .i64 n.b)
  c7 : W.cell? ⟨p.block, p.off + 7, none⟩ = some (.int .i64 n.mn)
  c8 : W.cell? ⟨p.block, p.off + 8, none⟩ = some (.int .i64 n.mx)
theorem NdAt.below {W W' : World} {p : Addr} {n : Nd} {B : Nat} (h : NdAt W p n) (hb : Below B W W') (hlt : p.block < B) : NdAt W' p n := by
  have k : ∀ i, W'.cell? ⟨p.block, i, none⟩ = W.cell? ⟨p.block, i, none⟩ := fun i => hb.cell (p := ⟨p.block, i, none⟩) hlt
  have k0 : W'.cell? p = W.cell? p := hb.cell hlt
  exact ⟨k0.trans h.c0, (k _).trans h.c1, (k _).trans h.c2, (k _).trans h.c3, (k _).trans h.c4, (k _).trans h.c5, (k _).trans h.c6, (k _).trans h.c7, (k _).trans h.c8⟩
def NodesAt (W : World) (A : Option Addr) (ns : List Nd) : Prop := ∀ i (h : i < ns.length), ∃ a, A = some a ∧ a.block < W.heap.size ∧ NdAt W (a.add (i * 9)) ns[i]
theorem NodesAt.below {W W' : World} {A : Option Addr} {ns : List Nd} (h : NodesAt W A ns) (hb : Below W.heap.size W W') : NodesAt W' A ns := fun i hi =>
  let ⟨a, e, hlt, hc⟩ := h i hi
  ⟨a, e, Nat.lt_of_lt_of_le hlt hb.size, hc.below hb (by rw [add_block]; exact hlt)⟩
def PartsAt (W : World) (A : Option Addr) (ps : List Pt) : Prop := ∀ i (h : i < ps.length), ∃ a, A = some a ∧ a.block < W.heap.size ∧ W.cell? (a.add (i * 2)) = some (.int .i64 ps[i].root) ∧ W.cell? ⟨(a.add (i * 2)).block, (a.add (i * 2)).off + 1, none⟩ = some (.bool ps[i].no)
theorem PartsAt.below {W W' : World} {A : Option Addr} {ps : List Pt} (h : PartsAt W A ps) (hb : Below W.heap.size W W') : PartsAt W' A ps := fun i hi =>
  let ⟨a, e, hlt, h0, h1⟩ := h i hi
  ⟨a, e, Nat.lt_of_lt_of_le hlt hb.size, (hb.cell (p := a.add (i * 2)) (by rw [add_block]; exact hlt)).trans h0, (hb.cell (p := ⟨(a.add (i * 2)).block, (a.add (i * 2)).off + 1, none⟩) (by show (a.add (i * 2)).block < _; rw [add_block]; exact hlt)).trans h1⟩
/-- A tree in memory. -/
structure TreeAt (W : World) (A A' : Option Addr) (ns : List Nd) (ps : List Pt) : Prop where
  nodes : NodesAt W A ns
  parts : PartsAt W A' ps
  nok : ∀ n ∈ ns, NdOk n
  pok : ∀ p ∈ ps, -9223372036854775808 ≤ p.root ∧ p.root ≤ 9223372036854775807
  nlen : ns.length ≤ 9223372036854775807
  plen : ps.length ≤ 9223372036854775807
theorem TreeAt.below {W W' : World} {A A' : Option Addr} {ns : List Nd} {ps : List Pt} (h : TreeAt W A A' ns ps) (hb : Below W.heap.size W W') : TreeAt W' A A' ns ps :=
  ⟨h.nodes.below hb, h.parts.below hb, h.nok, h.pok, h.nlen, h.plen⟩
theorem great_any {w : World} {A A' : Option Addr} {ns : List Nd} {ps : List Pt} (c c' : Nat) (h : TreeAt w A A' ns ps) :
    Calls Tryd.prog 14 #[.agg #[.slice A ns.length c, .slice A' ps.length c']] w fun e w' => e = .returned (.bool (decide (700 < ns.length) || decide (30 < ps.length))) ∧ Below w.heap.size w w' := by
  have h1 := h.nlen
  have h2 := h.plen
  clear h
  by_cases g : 700 < ns.length
  · have g1 : decide ((700 : Int) < ns.length) = true := decide_eq_true (by omega)
    rw [decide_eq_true g]
    go_enter Tryd.func14, Tryd.ntmps14
    go_wp2_with fail
    all_goals
      go_ret
      exact ⟨rfl, by (repeat (first | exact Below.refl _ _ | assumption | refine Below.drew ?_ | refine Below.alloc ?_ (by first | exact Nat.le_refl _ | (simp; done) | (simp; omega) | omega) _ | refine Below.setCell ?_ (by first | exact Nat.le_refl _ | (simp; done) | (simp; omega) | omega) _))⟩
  · have g1 : decide ((700 : Int) < ns.length) = false := decide_eq_false (by omega)
    rw [decide_eq_false g]
    by_cases k : 30 < ps.length
    · have k1 : decide ((30 : Int) < ps.length) = true := decide_eq_true (by omega)
      rw [decide_eq_true k]
      go_enter Tryd.func14, Tryd.ntmps14
      go_wp2_with fail
      all_goals
        go_ret
        exact ⟨rfl, by (repeat (first | exact Below.refl _ _ | assumption | refine Below.drew ?_ | refine Below.alloc ?_ (by first | exact Nat.le_refl _ | (simp; done) | (simp; omega) | omega) _ | refine Below.setCell ?_ (by first | exact Nat.le_refl _ | (simp; done) | (simp; omega) | omega) _))⟩
    · have k1 : decide ((30 : Int) < ps.length) = false := decide_eq_false (by omega)
      rw [decide_eq_false k]
      go_enter Tryd.func14, Tryd.ntmps14
      go_wp2_with fail
      all_goals
        go_ret
        exact ⟨rfl, by (repeat (first | exact Below.refl _ _ | assumption | refine Below.drew ?_ | refine Below.alloc ?_ (by first | exact Nat.le_refl _ | (simp; done) | (simp; omega) | omega) _ | refine Below.setCell ?_ (by first | exact Nat.le_refl _ | (simp; done) | (simp; omega) | omega) _))⟩
end Go.Proofs.YtebkaajnnjfhjaaDoor
