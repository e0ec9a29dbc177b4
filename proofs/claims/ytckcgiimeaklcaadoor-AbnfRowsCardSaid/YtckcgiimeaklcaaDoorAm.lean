/-
  The reader of layer 23 in memory: what it holds; a grammar's elements, lines, rules.
-/
import Derived.Test.YtckcgiimeaklcaaDoorWWords
import Derived.Test.YtckcgiimeaklcaaDoorStr
import Derived.Test.YtckcgiimeaklcaaDoorAb
import Derived.Test.YtckcgiimeaklcaaDoorChecked
import Derived.Outline
import Derived.Lib.Hide
import Derived.Maps.OwnSet
import Derived.WalkKit
import Derived.WalkLawsBesides
import Derived.WalkSpells
import Derived.BigQuiet
import Derived.Lib.Hide
namespace Go.Proofs.YtckcgiimeaklcaaDoor
set_option linter.unusedVariables false
set_option linter.unusedSimpArgs false
open Go.RowKit Go.Proofs.YtckcgiimeaklcaaDoorW.PrintWords
open Ab (T El R Rs sz rootI post els root hasR szs)

/-- An element's cells. -/
def elC (x : El) : List Value := [.int .i64 x.k, .string ⟨x.t.toArray⟩, .int .i64 x.a, .int .i64 x.b, .int .i64 x.lo, .int .i64 x.hi]
def lnC (i : Int) : Value := .int .i64 i
/-! ### the rules, as a datum -/
def putR (D : DataW Unit) (b : List UInt8) (k : Int) : DataW Unit := D.put (.string b) (.lit (.int .i64 k))
/-- A map's block that holds the rules. -/
def MapAt (w : World) (b : Nat) (rs : Rs) : Prop := ∃ D : DataW Unit, w.ownsMap Tryd.prog 9 (plainElem Tryd.prog 3) b rs.length D ∧ Maps.Tidy D ∧ Maps.size D = rs.length ∧ (∀ n, Maps.has D (.string n) = hasR rs n) ∧ ∀ n k, root 0 rs n = some k → D.atKey (.string n) (.lit (.int .i64 0)) = .lit (.int .i64 k)
/-- All blocks below base are as they were, but for two of them; and so are all results' cells. -/
structure Kp (base gg bm : Nat) (w w' : World) : Prop where
  os : w'.os = w.os
  tape : w'.tape = w.tape
  output : w'.output = w.output
  size : w.heap.size ≤ w'.heap.size
  block : ∀ k, k < base → k ≠ gg → k ≠ bm → w'.heap[k]? = w.heap[k]?
  er : ∀ k v, k ≠ gg → k ≠ bm → w.heap[k]? = some (.cells v 24 (0, 0)) → w'.heap[k]? = some (.cells v 24 (0, 0))
theorem Kp.refl (base gg bm : Nat) (w : World) : Kp base gg bm w w := ⟨rfl, rfl, rfl, Nat.le_refl _, fun _ _ _ _ => rfl, fun _ _ _ _ h => h⟩
theorem Kp.trans {base gg bm : Nat} {a b c : World} (h : Kp base gg bm a b) (k : Kp base gg bm b c) : Kp base gg bm a c :=
  ⟨k.os.trans h.os, k.tape.trans h.tape, k.output.trans h.output, Nat.le_trans h.size k.size, fun i h1 h2 h3 => (k.block i h1 h2 h3).trans (h.block i h1 h2 h3), fun i v h2 h3 h4 => k.er i v h2 h3 (h.er i v h2 h3 h4)⟩
theorem Kp.of {base gg bm : Nat} {w w' : World} (h : Below w.heap.size w w') (hB : base ≤ w.heap.size) : Kp base gg bm w w' := ⟨h.os, h.tape, h.output, h.size, fun k h1 _ _ => h.block k (Nat.lt_of_lt_of_le h1 hB), fun k v _ _ h4 => blk_below h4 h⟩
theorem Kp.below {base gg bm B : Nat} {w w' : World} (h : Kp base gg bm w w') (h0 : B ≤ base) (h1 : B ≤ gg) (h2 : B ≤ bm) : Below B w w' := ⟨h.os, h.tape, h.output, h.size, fun k hk => h.block k (by omega) (by omega) (by omega)⟩
theorem Kp.grown {base gg bm : Nat} {a w w' : World} {row : Option Nat} (h : Kp base gg bm a w) (hb : base ≤ w.heap.size) (hg : w.grownBy w' row) (hr : ∀ k, row = some k → base ≤ k ∨ k = gg ∨ k = bm)
    (hne : ∀ k v, k ≠ gg → k ≠ bm → w.heap[k]? = some (.cells v 24 (0, 0)) → some k ≠ row) : Kp base gg bm a w' :=
  ⟨hg.os.trans h.os, hg.tape.trans h.tape, hg.output.trans h.output, Nat.le_trans h.size hg.size, fun k h1 h2 h3 => (hg.block k (Nat.lt_of_lt_of_le h1 hb) (fun e => by rcases hr k e.symm with h | h | h <;> omega)).trans (h.block k h1 h2 h3),
    fun k v h2 h3 h4 => blk_grown (h.er k v h2 h3 h4) hg (hne k v h2 h3 (h.er k v h2 h3 h4))⟩
theorem Kp.setCell {base gg bm : Nat} {a w : World} (h : Kp base gg bm a w) {p : Addr} (hp : (base ≤ p.block ∧ ∃ cs t, w.heap[p.block]? = some (.cells cs t (0, 0)) ∧ t ≠ 24) ∨ p.block = gg) (v : Value) : Kp base gg bm a (w.setCell p v) := by
  refine ⟨h.os, h.tape, h.output, ?_, fun k h1 h2 h3 => (Below.heap_setCell w p v k (by rcases hp with hp | hp <;> omega)).trans (h.block k h1 h2 h3), fun k u h2 h3 h4 => (Below.heap_setCell w p v k ?_).trans (h.er k u h2 h3 h4)⟩
  · have := h.size
    simpa using this
  · intro e
    rcases hp with ⟨_, cs, t, hb, ht⟩ | hp
    · rw [← e, h.er k u h2 h3 h4] at hb
      injection hb with hb
      injection hb with _ hb
      exact ht hb.symm
    · omega
theorem Kp.alloc {base gg bm : Nat} {a w : World} (h : Kp base gg bm a w) (hb : base ≤ w.heap.size) (o : Obj) : Kp base gg bm a (w.alloc o) := h.trans (.of ((Below.refl w.heap.size w).alloc (Nat.le_refl _) o) hb)
theorem Kp.drew {base gg bm : Nat} {a w : World} (h : Kp base gg bm a w) : Kp base gg bm a w.drew := ⟨h.os, h.tape, h.output, h.size, h.block, h.er⟩
/-- The reader: block gr; its grammar: block gg, whose map is block bm. -/
structure RSv (w : World) (base gg gr bm : Nat) (l : List UInt8) (ln : Int) (op : Nat) (es : List El) (ls : List Int) (rs : Rs) (vE vL : Value) : Prop where
  blk : w.heap[gr]? = some (.cells #[.pointer (some ⟨gg, 0, none⟩), .string ⟨l.toArray⟩, .int .i64 ln, .int .i64 op] 42 (0, 0))
  gblk : w.heap[gg]? = some (.cells #[vE, .map (some bm), vL] 37 (0, 0))
  map : MapAt w bm rs
  rE : w.ownsRow base 45 6 vE es.length (es.flatMap elC)
  rL : w.ownsRow base 3 1 vL ls.length (encs lnC ls)
  bg : base ≤ gr
  bmlt : bm < base
  len : ls.length ≤ es.length
  le : es.length ≤ 1500
  ll : l.length ≤ 8000
  op : op ≤ 16
  mx : ∃ m, w.cell? ⟨0, 0, none⟩ = some (.int .i64 m)
  p0 : 0 < base ∧ 0 < gg ∧ 0 < bm
theorem mx_below {w w' : World} (h : ∃ m, w.cell? ⟨0, 0, none⟩ = some (.int .i64 m)) (hb : Below w.heap.size w w') : ∃ m, w'.cell? ⟨0, 0, none⟩ = some (.int .i64 m) :=
  let ⟨m, hm⟩ := h
  ⟨m, pw_cell_below hb hm⟩
theorem mx_kp {w w' : World} {base gg bm : Nat} (h : ∃ m, w.cell? ⟨0, 0, none⟩ = some (.int .i64 m)) (hb : Kp base gg bm w w') (p0 : 0 < base ∧ 0 < gg ∧ 0 < bm) : ∃ m, w'.cell? ⟨0, 0, none⟩ = some (.int .i64 m) := by
  obtain ⟨m, hm⟩ := h
  have := hb.block 0 p0.1 (by omega) (by omega)
  exact ⟨m, by rw [← hm]; unfold World.cell?; rw [this]⟩
def RS (w : World) (base gg gr bm : Nat) (l : List UInt8) (ln : Int) (op : Nat) (es : List El) (ls : List Int) (rs : Rs) : Prop := ∃ vE vL, RSv w base gg gr bm l ln op es ls rs vE vL
section
variable {w w' : World} {base gg gr bm : Nat} {l l' : List UInt8} {ln : Int} {op : Nat} {es : List El} {ls : List Int} {rs : Rs} {vE vL : Value}
theorem MapAt.grown {row : Option Nat} {b : Nat} (h : MapAt w b rs) (hg : w.grownBy w' row) (hne : some b ≠ row) : MapAt w' b rs := by
  obtain ⟨D, h1, h2⟩ := h
  exact ⟨D, h1.kept hg hne, h2⟩
theorem MapAt.lt {b : Nat} (h : MapAt w b rs) : b < w.heap.size := by
  obtain ⟨D, h1, h2⟩ := h
  exact h1.lt
theorem MapAt.ne {b g : Nat} {cs : Array Value} {t : TypeId} {z : Nat × Nat} (h : MapAt w b rs) (hb : w.heap[g]? = some (.cells cs t z)) : b ≠ g := by
  obtain ⟨D, ⟨E, c, h1, _⟩, h2⟩ := h
  intro e
  subst e
  rw [hb] at h1
  cases h1
theorem RSv.below (h : RSv w base gg gr bm l ln op es ls rs vE vL) (hb : Below w.heap.size w w') : RSv w' base gg gr bm l ln op es ls rs vE vL :=
  ⟨blk_below h.blk hb, blk_below h.gblk hb, h.map.grown (grown_of_below hb none) (by simp), pw_own_below h.rE hb, pw_own_below h.rL hb, h.bg, h.bmlt, h.len, h.le, h.ll, h.op, mx_below h.mx hb, h.p0⟩
theorem RSv.ne_g (h : RSv w base gg gr bm l ln op es ls rs vE vL) : gg ≠ gr := blk_ne h.gblk h.blk (by decide)
theorem RSv.lt (h : RSv w base gg gr bm l ln op es ls rs vE vL) : base ≤ w.heap.size := by
  have := blk_lt h.blk
  have := h.bg
  omega
theorem RSv.setR {cs : Array Value} (h : RSv w base gg gr bm l ln op es ls rs vE vL) (i : Nat) (v : Value) (hc : (#[.pointer (some ⟨gg, 0, none⟩), .string ⟨l.toArray⟩, .int .i64 ln, .int .i64 op] : Array Value).setIfInBounds i v = cs) {l' : List UInt8} {op' : Nat}
    (hcs : cs = #[.pointer (some ⟨gg, 0, none⟩), .string ⟨l'.toArray⟩, .int .i64 ln, .int .i64 op']) (hl : l'.length ≤ 8000) (ho : op' ≤ 16) : RSv (w.setCell ⟨gr, i, none⟩ v) base gg gr bm l' ln op' es ls rs vE vL := by
  have hg : w.grownBy (w.setCell ⟨gr, i, none⟩ v) (some gr) := ⟨rfl, rfl, rfl, by simp, fun k hk hn => Below.heap_setCell w ⟨gr, i, none⟩ v k (fun e => hn (by rw [e]))⟩
  refine ⟨?_, blk_far h.gblk (p := ⟨gr, i, none⟩) h.ne_g v, h.map.grown hg ?_, own_setCell h.rE (own_ne h.rE h.blk (by decide)) _, own_setCell h.rL (own_ne h.rL h.blk (by decide)) _, h.bg, h.bmlt, h.len, h.le, hl, ho, mx_kp h.mx ((Kp.refl base gg bm w).setCell (p := ⟨gr, i, none⟩) (Or.inl ⟨h.bg, _, _, h.blk, by decide⟩) v) h.p0, h.p0⟩
  · have := blk_set h.blk i v
    rw [hc, hcs] at this
    exact this
  · intro e
    injection e with e
    exact h.map.ne h.blk e
theorem RSv.setS (h : RSv w base gg gr bm l ln op es ls rs vE vL) (l' : List UInt8) (hl : l'.length ≤ l.length) : RSv (w.setCell ⟨gr, 1, none⟩ (.string ⟨l'.toArray⟩)) base gg gr bm l' ln op es ls rs vE vL :=
  h.setR 1 _ rfl rfl (Nat.le_trans hl h.ll) h.op
theorem RSv.setOp (h : RSv w base gg gr bm l ln op es ls rs vE vL) (k : Nat) (hk : k ≤ 16) : RSv (w.setCell ⟨gr, 3, none⟩ (.int .i64 k)) base gg gr bm l ln k es ls rs vE vL :=
  h.setR 3 _ rfl rfl h.ll hk
theorem RSv.cells (h : RSv w base gg gr bm l ln op es ls rs vE vL) :
    w.cell? ⟨gr, 0, none⟩ = some (.pointer (some ⟨gg, 0, none⟩)) ∧ w.cell? ⟨gr, 1, none⟩ = some (.string ⟨l.toArray⟩) ∧ w.cell? ⟨gr, 2, none⟩ = some (.int .i64 ln) ∧ w.cell? ⟨gr, 3, none⟩ = some (.int .i64 op) :=
  ⟨(blk_cell h.blk 0).trans rfl, (blk_cell h.blk 1).trans rfl, (blk_cell h.blk 2).trans rfl, (blk_cell h.blk 3).trans rfl⟩
theorem RSv.gcells (h : RSv w base gg gr bm l ln op es ls rs vE vL) :
    w.cell? ⟨gg, 0, none⟩ = some vE ∧ w.cell? ⟨gg, 1, none⟩ = some (.map (some bm)) ∧ w.cell? ⟨gg, 2, none⟩ = some vL :=
  ⟨(blk_cell h.gblk 0).trans rfl, (blk_cell h.gblk 1).trans rfl, (blk_cell h.gblk 2).trans rfl⟩
theorem RSv.ice (h : RSv w base gg gr bm l ln op es ls rs vE vL) (k : Nat) : w.frozen? ⟨gr, k, none⟩ = false := blk_frozen h.blk k
theorem RSv.gice (h : RSv w base gg gr bm l ln op es ls rs vE vL) (k : Nat) : w.frozen? ⟨gg, k, none⟩ = false := blk_frozen h.gblk k
theorem RSv.kp (h : RSv w base gg gr bm l ln op es ls rs vE vL) (hb : Below w.heap.size w w') : Kp base gg bm w w' := .of hb h.lt
theorem RSv.kset (h : RSv w base gg gr bm l ln op es ls rs vE vL) {a : World} (hk : Kp base gg bm a w) (i : Nat) (v : Value) : Kp base gg bm a (w.setCell ⟨gr, i, none⟩ v) := hk.setCell (Or.inl ⟨h.bg, _, _, h.blk, by decide⟩) v
end
/-- What a reader panics with. -/
abbrev flt (e : Int) : List PanicEntry := [{ v := .iface 58 (.agg #[.int .i64 e]), recovered := false }]
/-- What a call comes to that lays a tree's elements; l is what was to be read. -/
def OutN (w : World) (base gg gr bm : Nat) (l : List UInt8) (ln : Int) (op : Nat) (es : List El) (ls : List Int) (rs : Rs) (res : R T) (e : Ending) (w' : World) : Prop :=
  match res with
  | .ok t l' n' => e = .returned (.int .i64 (rootI es.length t)) ∧ RS w' base gg gr bm l' ln op (es ++ post es.length t) (ls ++ List.replicate (sz t) ln) rs ∧ Kp base gg bm w w' ∧ n' = es.length + sz t ∧ l'.length ≤ l.length
  | .no x => e = .panicked (flt x) ∧ Kp base gg bm w w'
end Go.Proofs.YtckcgiimeaklcaaDoor
