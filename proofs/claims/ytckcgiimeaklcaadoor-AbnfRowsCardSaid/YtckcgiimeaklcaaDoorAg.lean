/-
  A grammar in memory; Has; strings.Split at newlines.
-/
import Derived.Test.YtckcgiimeaklcaaDoorAxF
import Derived.Lib.SplitLaws
namespace Go.Proofs.YtckcgiimeaklcaaDoor
set_option linter.unusedVariables false
set_option linter.unusedSimpArgs false
open Go.RowKit Go.Proofs.YtckcgiimeaklcaaDoorW.PrintWords
open Ab (T El R Rs sz rootI post els root hasR szs)

/-- An element's cells, from an address on. -/
structure ElAt (W : World) (p : Addr) (x : El) : Prop where
  c0 : W.cell? p = some (.int .i64 x.k)
  c1 : W.cell? ⟨p.block, p.off + 1, none⟩ = some (.string ⟨x.t.toArray⟩)
  c2 : W.cell? ⟨p.block, p.off + 2, none⟩ = some (.int .i64 x.a)
  c3 : W.cell? ⟨p.block, p.off + 3, none⟩ = some (.int .i64 x.b)
  c4 : W.cell? ⟨p.block, p.off + 4, none⟩ = some (.int .i64 x.lo)
  c5 : W.cell? ⟨p.block, p.off + 5, none⟩ = some (.int .i64 x.hi)
theorem ElAt.below {W W' : World} {p : Addr} {n : El} {B : Nat} (h : ElAt W p n) (hb : Below B W W') (hlt : p.block < B) : ElAt W' p n := by
  have k : ∀ i, W'.cell? ⟨p.block, i, none⟩ = W.cell? ⟨p.block, i, none⟩ := fun i => hb.cell (p := ⟨p.block, i, none⟩) hlt
  have k0 : W'.cell? p = W.cell? p := hb.cell hlt
  exact ⟨k0.trans h.c0, (k _).trans h.c1, (k _).trans h.c2, (k _).trans h.c3, (k _).trans h.c4, (k _).trans h.c5⟩
theorem ab_add_block (a : Addr) (n : Nat) : (a.add n).block = a.block := by unfold Addr.add; split <;> rfl
def ElsAt (W : World) (A : Option Addr) (es : List El) : Prop := ∀ i (h : i < es.length), ∃ a, A = some a ∧ a.block < W.heap.size ∧ ElAt W (a.add (i * 6)) es[i]
theorem ElsAt.below {W W' : World} {A : Option Addr} {es : List El} (h : ElsAt W A es) (hb : Below W.heap.size W W') : ElsAt W' A es := fun i hi =>
  let ⟨a, e, hlt, hc⟩ := h i hi
  ⟨a, e, Nat.lt_of_lt_of_le hlt hb.size, hc.below hb (by rw [ab_add_block]; exact hlt)⟩
def LnsAt (W : World) (A : Option Addr) (ls : List Int) : Prop := ∀ i (h : i < ls.length), ∃ a, A = some a ∧ a.block < W.heap.size ∧ W.cell? (a.add i) = some (.int .i64 ls[i])
theorem LnsAt.below {W W' : World} {A : Option Addr} {ls : List Int} (h : LnsAt W A ls) (hb : Below W.heap.size W W') : LnsAt W' A ls := fun i hi =>
  let ⟨a, e, hlt, hc⟩ := h i hi
  ⟨a, e, Nat.lt_of_lt_of_le hlt hb.size, (hb.cell (p := a.add i) (by rw [ab_add_block]; exact hlt)).trans hc⟩
theorem ab_flat_at {α : Type} (f : α → List Value) (s : Nat) (hs : ∀ a, (f a).length = s) (l : List α) : ∀ (i : Nat) (h : i < l.length) (j : Nat), j < s → (l.flatMap f)[i * s + j]? = (f l[i])[j]? := by
  induction l with
  | nil => intro i h; simp at h
  | cons a l ih =>
    intro i h j hj
    rw [List.flatMap_cons]
    rcases i with _ | i
    · rw [Nat.zero_mul, Nat.zero_add, List.getElem?_append_left (by rw [hs]; exact hj)]
      rfl
    · have e : (i + 1) * s + j = (f a).length + (i * s + j) := by rw [hs, Nat.add_mul]; omega
      rw [e, List.getElem?_append_right (by omega), Nat.add_sub_cancel_left]
      exact ih i (by simpa using h) j hj
theorem ElsAt.row {w : World} {base : Nat} {A : Option Addr} {c : Nat} {es : List El} (h : w.ownsRow base 45 6 (.slice A es.length c) es.length (es.flatMap elC)) : ElsAt w A es := by
  intro i hi
  rcases h.2 with ⟨e, h0⟩ | ⟨g, cap, cur, e, hb, hg, h1, h2, h3, h4⟩
  · omega
  · injection e with e1 e2 e3
    subst e1
    have hc : ∀ j u, j < 6 → (elC es[i])[j]? = some u → w.cell? ⟨g, i * 6 + j, none⟩ = some u := by
      intro j u hj hu
      rw [blk_cell hg (i * 6 + j)]
      have := ab_flat_at elC 6 (fun _ => rfl) es i hi j hj
      rw [hu, ← h4, List.getElem?_take_of_lt (by omega)] at this
      simpa using this
    have ha : (⟨g, 0, none⟩ : Addr).add (i * 6) = ⟨g, i * 6, none⟩ := by unfold Addr.add; split <;> simp_all
    refine ⟨_, rfl, blk_lt hg, ?_⟩
    rw [ha]
    exact ⟨hc 0 _ (by omega) rfl, hc 1 _ (by omega) rfl, hc 2 _ (by omega) rfl, hc 3 _ (by omega) rfl, hc 4 _ (by omega) rfl, hc 5 _ (by omega) rfl⟩
theorem LnsAt.row {w : World} {base : Nat} {A : Option Addr} {c : Nat} {ls : List Int} (h : w.ownsRow base 3 1 (.slice A ls.length c) ls.length (encs lnC ls)) : LnsAt w A ls := by
  intro i hi
  rcases h.2 with ⟨e, h0⟩ | ⟨g, cap, cur, e, hb, hg, h1, h2, h3, h4⟩
  · omega
  · injection e with e1 e2 e3
    subst e1
    have ha : (⟨g, 0, none⟩ : Addr).add i = ⟨g, i, none⟩ := by unfold Addr.add; split <;> simp_all
    refine ⟨_, rfl, blk_lt hg, ?_⟩
    rw [ha, blk_cell hg i]
    have : (encs lnC ls)[i]? = some (lnC ls[i]) := by simp [encs, hi]
    rw [← h4, List.getElem?_take_of_lt (by omega)] at this
    simpa [lnC] using this
/-- A grammar that is read. -/
structure GramAt (W : World) (gg bm : Nat) (es : List El) (rs : Rs) (A : Option Addr) (c : Nat) (vL : Value) : Prop where
  gblk : W.heap[gg]? = some (.cells #[.slice A es.length c, .map (some bm), vL] 37 (0, 0))
  els : ElsAt W A es
  map : MapAt W bm rs
theorem GramAt.below {W W' : World} {gg bm : Nat} {es : List El} {rs : Rs} {A : Option Addr} {c : Nat} {vL : Value} (h : GramAt W gg bm es rs A c vL) (hb : Below W.heap.size W W') : GramAt W' gg bm es rs A c vL :=
  ⟨blk_below h.gblk hb, h.els.below hb, h.map.grown (grown_of_below hb none) (by simp)⟩
theorem GramAt.cells {W : World} {gg bm : Nat} {es : List El} {rs : Rs} {A : Option Addr} {c : Nat} {vL : Value} (h : GramAt W gg bm es rs A c vL) :
    W.cell? ⟨gg, 0, none⟩ = some (.slice A es.length c) ∧ W.cell? ⟨gg, 1, none⟩ = some (.map (some bm)) ∧ W.cell? ⟨gg, 2, none⟩ = some vL :=
  ⟨(blk_cell h.gblk 0).trans rfl, (blk_cell h.gblk 1).trans rfl, (blk_cell h.gblk 2).trans rfl⟩
set_option maxHeartbeats 1600000 in
theorem has_any {w : World} {gg bm : Nat} {rs : Rs} (n : List UInt8) (hn : n.length ≤ maxLen) (hg : w.cell? ⟨gg, 1, none⟩ = some (.map (some bm))) (hm : MapAt w bm rs) :
    Calls Tryd.prog 7 #[.pointer (some ⟨gg, 0, none⟩), .string ⟨n.toArray⟩] w fun e w' => e = .returned (.bool (hasR rs n)) ∧ w' = w := by
  obtain ⟨v, hlook, _⟩ := hm.look n hn
  clear hm
  go_enter Tryd.func7, Tryd.ntmps7
  go_wp2
  go_ret
  exact ⟨rfl, rfl⟩
theorem has_nil {w : World} (n : ByteArray) : Calls Tryd.prog 7 #[.pointer none, .string n] w fun e w' => e = .returned (.bool false) ∧ w' = w := by
  go_enter Tryd.func7, Tryd.ntmps7
  go_wp2
  go_ret
  exact ⟨rfl, rfl⟩
/-! ### lines -/
namespace Ab
theorem splitK_eq : ∀ l : B, Lib.splitK [10] 0 (Lib.count l [10]) l = split l
  | [] => by
    have : Lib.count [] [10] = 0 := by decide
    rw [this]; rfl
  | c :: t => by
    have ih := splitK_eq t
    by_cases hc : c = 10
    · subst hc
      rw [Lib.count_cons_eq, Nat.add_comm]
      have hix : Lib.index (10 :: t) [10] = 0 := by rw [Lib.index]; simp [List.isPrefixOf]
      simp only [Lib.splitK, hix, split, if_true]
      rw [if_neg (by decide)]
      simp only [Int.toNat_zero, Nat.zero_add, List.take_zero, List.length_singleton, List.drop_succ_cons, List.drop_zero]
      rw [ih]
    · rw [Lib.count_cons_ne c 10 t hc]
      have hp : ([10] : List UInt8).isPrefixOf (c :: t) = false := by simp [List.isPrefixOf]; exact fun e => hc e.symm
      have hix : Lib.index (c :: t) [10] = if Lib.index t [10] == -1 then -1 else Lib.index t [10] + 1 := by rw [Lib.index, hp]; simp
      simp only [split, if_neg hc]
      rw [← ih]
      cases hk : Lib.count t [10] with
      | zero => rfl
      | succ k =>
        simp only [Lib.splitK]
        by_cases hm : Lib.index t [10] = -1
        · rw [hix, hm]; rfl
        · have h1 : ¬ (Lib.index t [10] == -1) = true := fun e => hm (beq_iff_eq.1 e)
          have h0 : 0 ≤ Lib.index t [10] := by have := Lib.index_ge t [10]; omega
          have h2 : ¬ (Lib.index t [10] + 1 == -1) = true := fun e => by have := beq_iff_eq.1 e; omega
          rw [hix, if_neg h1, if_neg h1, if_neg h2]
          have e1 : (Lib.index t [10] + 1).toNat = (Lib.index t [10]).toNat + 1 := by omega
          rw [e1]
          simp only [Nat.add_zero, List.take_succ_cons, List.length_singleton, List.drop_succ_cons]
theorem split_pos (l : B) : 0 < (split l).length := by
  cases l with
  | nil => simp [split]
  | cons c t =>
    unfold split
    split
    · simp
    · split <;> simp
theorem split_len (l : B) : ∀ x ∈ split l, x.length ≤ l.length := by
  induction l with
  | nil => simp [split]
  | cons c t ih =>
    intro x hx
    unfold split at hx
    split at hx
    · rcases List.mem_cons.1 hx with rfl | hx
      · simp
      · have := ih x hx; simp; omega
    · split at hx
      · simp at hx; subst hx; simp
      · next y r hs =>
        rw [hs] at ih
        rcases List.mem_cons.1 hx with rfl | hx
        · have := ih y (by simp); simp; omega
        · have := ih x (by simp [hx]); simp; omega
theorem split_count (l : B) : (split l).length ≤ l.length + 1 := by
  induction l with
  | nil => simp [split]
  | cons c t ih =>
    unfold split
    split
    · simp; omega
    · split
      · simp
      · next y r hs => rw [hs] at ih; simp at *; omega
end Ab
theorem split_any (l : List UInt8) (m : Int) (w : World) (hs : l.length ≤ 8000) (hm : w.cell? ⟨0, 0, none⟩ = some (.int .i64 m)) :
    Calls Tryd.prog 10 #[.string ⟨l.toArray⟩, .string ⟨[10].toArray⟩] w fun e w' =>
      e = .returned (.slice (some ⟨w.heap.size, 0, none⟩) (Ab.split l).length (Ab.split l).length) ∧ w' = w.alloc (.cells ((Ab.split l).map fun s => Value.string ⟨s.toArray⟩).toArray 9) := by
  refine (Tryd.strings_Split ⟨l.toArray⟩ ⟨[10].toArray⟩ m w (by show l.toArray.size < _; simp; omega) hm (by decide)).mono ?_
  rintro e w' ⟨rfl, rfl⟩
  have h1 : (Lib.splitB ⟨[10].toArray⟩ 0 (Lib.countB ⟨l.toArray⟩ ⟨[10].toArray⟩) ⟨l.toArray⟩).map (·.data.toList) = Ab.split l := (Lib.splitB_data _ _ _ _).trans (Ab.splitK_eq l)
  have h2 : (Lib.splitB ⟨[10].toArray⟩ 0 (Lib.countB ⟨l.toArray⟩ ⟨[10].toArray⟩) ⟨l.toArray⟩).map Value.string = (Ab.split l).map fun s => Value.string ⟨s.toArray⟩ := by
    rw [← h1, List.map_map]
    rfl
  have h3 := congrArg List.length h1
  rw [List.length_map, Lib.splitB_all _ (by decide) 0 _ _ rfl] at h3
  rw [h2]
  refine ⟨?_, rfl⟩
  rw [show (Ab.split l).length = Lib.countB ⟨l.toArray⟩ ⟨[10].toArray⟩ + 1 from h3.symm]
end Go.Proofs.YtckcgiimeaklcaaDoor
