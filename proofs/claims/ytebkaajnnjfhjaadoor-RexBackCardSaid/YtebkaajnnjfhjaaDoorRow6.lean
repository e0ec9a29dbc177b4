/-
  Small words for the rows of this seat: the tables; a tree as an argument.
-/
import Derived.Test.YtebkaajnnjfhjaaDoorSome6
import Derived.Test.YtebkaajnnjfhjaaDoorList
import Derived.Test.YtebkaajnnjfhjaaDoorRows
import Derived.WalkKit
import Derived.ProofKit
import Derived.OpenShut
import Derived.ShutString
import Derived.Carry
import Derived.ChangeSlices
import Derived.LaidMore
import Derived.LaidLaws
import Derived.Lib.LaidU8
import Derived.Lib.SmallJoins
import Derived.Deep.Slices
namespace Go.Proofs.YtebkaajnnjfhjaaDoor
set_option linter.unusedVariables false
set_option linter.unusedSimpArgs false
open Go.ChangeShapes Go.WideShapes Go.ChangeAt Go.RowKit
open Tr (Nd Pt)

theorem own : ownKnob Tryd.prog.godebug = none := by kernel_rfl
theorem tabIs_of_reads {P : Program} {W : World} {name : String} {k : IntKind} {zs : List Int} {g : Nat} {t e : TypeId} {n : Nat}
    (hg : P.globalNamed name = some g) (hty : (P.globals[g]?).map (·.type) = some t) (ht : P.underlying t = some (.array n e)) (he : P.underlying e = some (.int k)) (hce : P.cellsOf e = 1) (hct : P.cellsOf t = n)
    (h : Lib.VarReads P W name (Lib.tabData k zs)) : Lib.TabIs P W name k zs := by
  obtain ⟨g', t', cs, fuel, p, hg', ht', hvar, hd⟩ := h
  obtain rfl := Option.some.inj (hg.symm.trans hg')
  obtain rfl := Option.some.inj (hty.symm.trans ht')
  unfold Lib.TabIs
  rw [hvar, ← Lib.cells_of_tab ht he hce hct hd]
def laid3 : List (String × DataW Unit) := [("math/bits.deBruijn32tab", Rows.laid_math_bits_deBruijn32tab), ("math/bits.deBruijn64tab", Rows.laid_math_bits_deBruijn64tab), ("internal/strconv.uint64pow10", Rows.laid_internal_strconv_uint64pow10)]
def bru : List Int := Lib.deBruijn64tab.map fun (n : Nat) => (n : Int)
theorem bru_eq : Rows.laid_math_bits_deBruijn64tab = (Lib.tabData .u8 bru : DataW Unit) := by kernel_rfl
theorem pow_eq : Rows.laid_internal_strconv_uint64pow10 = (Lib.tabData .u64 Lib.pow10Tab : DataW Unit) := by kernel_rfl
theorem laid_of {W : World} (h : laidMetH Tryd.prog laid3 W) : Laid W := by
  rw [MakeChecks.laidMetH_plain _ _ _ (by kernel_rfl)] at h
  have h1 := Lib.laidMet.reads h (n := "math/bits.deBruijn64tab") (d := Rows.laid_math_bits_deBruijn64tab) (by simp [laid3])
  have h2 := Lib.laidMet.reads h (n := "internal/strconv.uint64pow10") (d := Rows.laid_internal_strconv_uint64pow10) (by simp [laid3])
  rw [bru_eq] at h1
  rw [pow_eq] at h2
  have t1 := tabIs_of_reads (P := Tryd.prog) (g := 0) (t := 110) (e := 5) (n := 64) (by kernel_rfl) (by kernel_rfl) (by kernel_rfl) (by kernel_rfl) (by kernel_rfl) (by kernel_rfl) h1
  have t2 := tabIs_of_reads (P := Tryd.prog) (g := 2) (t := 123) (e := 22) (n := 20) (by kernel_rfl) (by kernel_rfl) (by kernel_rfl) (by kernel_rfl) (by kernel_rfl) (by kernel_rfl) h2
  have hg1 : Tryd.prog.globalNamed "math/bits.deBruijn64tab" = some 0 := by kernel_rfl
  have hg2 : Tryd.prog.globalNamed "internal/strconv.uint64pow10" = some 2 := by kernel_rfl
  refine ⟨fun j hj => ?_, t2, ?_⟩
  · have hl : bru.length = 64 := by decide
    have := t1.cell hg1 j (by rw [hl]; exact hj)
    rw [this]
    congr 2
    simp only [bru, List.getD, List.getElem?_map]
    cases Lib.deBruijn64tab[j]? <;> rfl
  · have := t2.cell hg2 0 (by decide)
    unfold World.cell? at this
    rcases Nat.lt_or_ge 2 W.heap.size with h' | h'
    · exact h'
    · simp only [Array.getElem?_eq_none h'] at this
      cases this
theorem door_met (os : Os) (args : Array Value) : laidMetH Tryd.prog laid3 ((World.doorLaid Tryd.prog 4000 os).forCall (fun _ _ => 0) ⟨#[], args, []⟩).memory :=
  laidMetH_of_parts3 (fuel := 8) (laidMet_of_run' 8 (by kernel_rfl) (by kernel_rfl)) (by kernel_rfl) (by kernel_rfl)

/-! ### a tree as an argument -/
section
variable {H : Type} {enc : TypeId × Value → H} {W : World} {b0 : Nat} {sp : Nat → Bool} {held : Bool}
theorem c_u8 : Tryd.prog.cellsOf 5 = 1 := by kernel_rfl
theorem c_u64 : Tryd.prog.cellsOf 22 = 1 := by kernel_rfl
theorem c_int : Tryd.prog.cellsOf 3 = 1 := by kernel_rfl
theorem c_bool : Tryd.prog.cellsOf 4 = 1 := by kernel_rfl
theorem c_set : Tryd.prog.cellsOf 24 = 4 := by kernel_rfl
theorem c_node : Tryd.prog.cellsOf 27 = 9 := by kernel_rfl
theorem c_part : Tryd.prog.cellsOf 30 = 2 := by kernel_rfl
theorem some_of {α : Type} {xs : List α} {n i : Nat} (h : xs.length = n) (hi : i < n) : ∃ y, xs[i]? = some y := ⟨xs[i]'(by omega), List.getElem?_eq_getElem (by omega)⟩
theorem nat_of {k : IntKind} {z : Int} (h : (Lit.int k z).wf = true) (h0 : k.min = 0) : ∃ n : Nat, z = n := by
  have : k.min ≤ z ∧ z ≤ k.max := by simpa [Lit.wf] using h
  exact Int.eq_ofNat_of_zero_le (by omega)
set_option maxRecDepth 100000 in
theorem open_node {fuel : Nat} {cs : List Value} {x : DataW H × List MemPlace} (h : DataW.trod enc Tryd.prog W b0 sp held fuel 27 cs = some x) : ∃ n : Nd, cs = ndc n ∧ NdOk n := by
  obtain ⟨xs, m, _, _, hlen, hxl, hf⟩ := DataW.trod_struct Tryd.underlying27 h
  rw [c_node] at hlen
  match cs, hlen with
  | [v0, v1, v2, v3, v4, v5, v6, v7, v8], _ =>
    obtain ⟨y0, e0⟩ := some_of hxl (show 0 < 6 by omega)
    obtain ⟨y1, e1⟩ := some_of hxl (show 1 < 6 by omega)
    obtain ⟨y2, e2⟩ := some_of hxl (show 2 < 6 by omega)
    obtain ⟨y3, e3⟩ := some_of hxl (show 3 < 6 by omega)
    obtain ⟨y4, e4⟩ := some_of hxl (show 4 < 6 by omega)
    obtain ⟨y5, e5⟩ := some_of hxl (show 5 < 6 by omega)
    have h0 : DataW.trod enc Tryd.prog W b0 sp held m 5 (([v0, v1, v2, v3, v4, v5, v6, v7, v8].drop 0).take (Tryd.prog.cellsOf 5)) = some y0 := (hf 0 _ rfl).trans e0
    rw [c_u8] at h0
    have h1 : DataW.trod enc Tryd.prog W b0 sp held m 24 (([v0, v1, v2, v3, v4, v5, v6, v7, v8].drop 1).take (Tryd.prog.cellsOf 24)) = some y1 := (hf 1 _ rfl).trans e1
    rw [c_set] at h1
    have h2 : DataW.trod enc Tryd.prog W b0 sp held m 3 (([v0, v1, v2, v3, v4, v5, v6, v7, v8].drop 5).take (Tryd.prog.cellsOf 3)) = some y2 := (hf 2 _ rfl).trans e2
    rw [c_int] at h2
    have h3 : DataW.trod enc Tryd.prog W b0 sp held m 3 (([v0, v1, v2, v3, v4, v5, v6, v7, v8].drop 6).take (Tryd.prog.cellsOf 3)) = some y3 := (hf 3 _ rfl).trans e3
    rw [c_int] at h3
    have h4 : DataW.trod enc Tryd.prog W b0 sp held m 3 (([v0, v1, v2, v3, v4, v5, v6, v7, v8].drop 7).take (Tryd.prog.cellsOf 3)) = some y4 := (hf 4 _ rfl).trans e4
    rw [c_int] at h4
    have h5 : DataW.trod enc Tryd.prog W b0 sp held m 3 (([v0, v1, v2, v3, v4, v5, v6, v7, v8].drop 8).take (Tryd.prog.cellsOf 3)) = some y5 := (hf 5 _ rfl).trans e5
    rw [c_int] at h5
    obtain ⟨z0, q0, _, w0⟩ := DataW.trod_int Tryd.underlying5 h0
    obtain ⟨z2, q2, _, w2⟩ := DataW.trod_int Tryd.underlying3 h2
    obtain ⟨z3, q3, _, w3⟩ := DataW.trod_int Tryd.underlying3 h3
    obtain ⟨z4, q4, _, w4⟩ := DataW.trod_int Tryd.underlying3 h4
    obtain ⟨z5, q5, _, w5⟩ := DataW.trod_int Tryd.underlying3 h5
    obtain ⟨us, m', _, _, hul, hun, hu⟩ := DataW.trod_array Tryd.underlying24 h1
    obtain ⟨t0, g0⟩ := some_of hun (show 0 < 4 by omega)
    obtain ⟨t1, g1⟩ := some_of hun (show 1 < 4 by omega)
    obtain ⟨t2, g2⟩ := some_of hun (show 2 < 4 by omega)
    obtain ⟨t3, g3⟩ := some_of hun (show 3 < 4 by omega)
    have k0 := (hu 0 (by omega)).trans g0
    have k1 := (hu 1 (by omega)).trans g1
    have k2 := (hu 2 (by omega)).trans g2
    have k3 := (hu 3 (by omega)).trans g3
    simp only [c_u64] at k0 k1 k2 k3
    obtain ⟨s0, p0, _, r0⟩ := DataW.trod_int Tryd.underlying22 k0
    obtain ⟨s1, p1, _, r1⟩ := DataW.trod_int Tryd.underlying22 k1
    obtain ⟨s2, p2, _, r2⟩ := DataW.trod_int Tryd.underlying22 k2
    obtain ⟨s3, p3, _, r3⟩ := DataW.trod_int Tryd.underlying22 k3
    simp at q0 q2 q3 q4 q5 p0 p1 p2 p3
    obtain ⟨a0, rfl⟩ := nat_of w0 rfl
    obtain ⟨b0', rfl⟩ := nat_of r0 rfl
    obtain ⟨b1', rfl⟩ := nat_of r1 rfl
    obtain ⟨b2', rfl⟩ := nat_of r2 rfl
    obtain ⟨b3', rfl⟩ := nat_of r3 rfl
    have lim : ∀ (k : IntKind) (z : Int), (Lit.int k z).wf = true → k.min ≤ z ∧ z ≤ k.max := fun k z h => by simpa [Lit.wf] using h
    have l0 := (lim _ _ w0).2
    have n0 := (lim _ _ r0).2
    have n1 := (lim _ _ r1).2
    have n2 := (lim _ _ r2).2
    have n3 := (lim _ _ r3).2
    have eu8 : IntKind.u8.max = 255 := by decide
    have eu64 : IntKind.u64.max = 18446744073709551615 := by decide
    rw [eu8] at l0
    rw [eu64] at n0 n1 n2 n3
    refine ⟨⟨a0, ⟨b0', b1', b2', b3'⟩, z2, z3, z4, z5⟩, ?_, ⟨by simp only; omega, ⟨by simp only; omega, by simp only; omega, by simp only; omega, by simp only; omega⟩, lim _ _ w2, lim _ _ w3, lim _ _ w4, lim _ _ w5⟩⟩
    unfold ndc
    simp [q0, q2, q3, q4, q5, p0, p1, p2, p3]
set_option maxRecDepth 100000 in
theorem open_part {fuel : Nat} {cs : List Value} {x : DataW H × List MemPlace} (h : DataW.trod enc Tryd.prog W b0 sp held fuel 30 cs = some x) : ∃ p : Pt, cs = ptc p ∧ -9223372036854775808 ≤ p.root ∧ p.root ≤ 9223372036854775807 := by
  obtain ⟨xs, m, _, _, hlen, hxl, hf⟩ := DataW.trod_struct Tryd.underlying30 h
  rw [c_part] at hlen
  match cs, hlen with
  | [v0, v1], _ =>
    obtain ⟨y0, e0⟩ := some_of hxl (show 0 < 2 by omega)
    obtain ⟨y1, e1⟩ := some_of hxl (show 1 < 2 by omega)
    have h0 : DataW.trod enc Tryd.prog W b0 sp held m 3 (([v0, v1].drop 0).take (Tryd.prog.cellsOf 3)) = some y0 := (hf 0 _ rfl).trans e0
    rw [c_int] at h0
    have h1 : DataW.trod enc Tryd.prog W b0 sp held m 4 (([v0, v1].drop 1).take (Tryd.prog.cellsOf 4)) = some y1 := (hf 1 _ rfl).trans e1
    rw [c_bool] at h1
    obtain ⟨z0, q0, _, w0⟩ := DataW.trod_int Tryd.underlying3 h0
    obtain ⟨b, q1, _⟩ := DataW.trod_bool Tryd.underlying4 h1
    simp at q0 q1
    have lim : IntKind.i64.min ≤ z0 ∧ z0 ≤ IntKind.i64.max := by simpa [Lit.wf] using w0
    exact ⟨⟨z0, b⟩, by unfold ptc; simp [q0, q1], lim⟩
theorem list_of {α : Type} {P : Nat → α → Prop} (n : Nat) (h : ∀ i, i < n → ∃ x, P i x) : ∃ l : List α, l.length = n ∧ ∀ i (hi : i < l.length), P i l[i] := by
  induction n with
  | zero => exact ⟨[], rfl, fun i hi => by simp at hi⟩
  | succ n ih =>
    obtain ⟨l, hl, hp⟩ := ih fun i hi => h i (by omega)
    obtain ⟨x, hx⟩ := h n (by omega)
    refine ⟨l ++ [x], by simp [hl], fun i hi => ?_⟩
    rw [List.getElem_append]
    split
    · exact hp i _
    · have : i = n := by simp at hi; omega
      subst this
      simpa [hl] using hx
theorem NdAt.of_cells {W : World} {p : Addr} {n : Nd} (h : ∀ j, j < 9 → W.cell? (p.add j) = (ndc n)[j]?) : NdAt W p n := by
  have h0 := h 0 (by omega)
  have a0 : p.add 0 = p := by unfold Addr.add; rw [if_pos rfl]
  rw [a0] at h0
  exact ⟨h0, h 1 (by omega), h 2 (by omega), h 3 (by omega), h 4 (by omega), h 5 (by omega), h 6 (by omega), h 7 (by omega), h 8 (by omega)⟩
theorem row_mem {a : Addr} {n : Nat} (hn : 0 < n) {W : World} {p : List MemPlace} (h : ∀ x ∈ MemPlace.row a n ++ p, x.block < W.heap.size) : a.block < W.heap.size := by
  obtain ⟨b, off, spot⟩ := a
  exact h (.cell b off) (List.mem_append_left _ (MemPlace.mem_row.2 ⟨0, hn, by simp⟩))
set_option maxRecDepth 100000 in
theorem open_nodes {fuel : Nat} {v : Value} {x : DataW H × List MemPlace} (h : DataW.trod enc Tryd.prog W 0 (fun _ => true) held fuel 28 [v] = some x) (hlt : ∀ y ∈ x.2, y.block < W.heap.size) :
    ∃ (A : Option Addr) (ns : List Nd) (c : Nat), v = .slice A ns.length c ∧ NodesAt W A ns ∧ (∀ n ∈ ns, NdOk n) ∧ ns.length ≤ 9223372036854775807 := by
  rcases Go.Deep.open_slice Tryd.underlying28 h with ⟨hcs, hx⟩ | ⟨a, len, cap, m, n, D, Pl, hcs, hb, hl, hm, hmm, hx, hi⟩
  · injection hcs with hv _
    exact ⟨none, [], 0, hv, fun i hi => by simp at hi, fun n hn => by simp at hn, by simp⟩
  · injection hcs with hv _
    simp only [if_true] at hmm
    rw [c_node] at hi hx
    obtain ⟨ns, hnl, hns⟩ := list_of (P := fun i (n : Nd) => NdAt W (a.add (i * 9)) n ∧ NdOk n) len fun i hil => by
      obtain ⟨cs', hc, ht⟩ := hi i (by omega)
      obtain ⟨nd, rfl, hok⟩ := open_node ht
      obtain ⟨_, _, hat⟩ := World.cells?_some hc
      exact ⟨nd, NdAt.of_cells fun j hj => hat j hj, hok⟩
    refine ⟨some a, ns, cap, by rw [hv, hnl], fun i hi' => ⟨a, rfl, ?_, (hns i hi').1⟩, fun n hn => ?_, ?_⟩
    · rw [hx] at hlt
      exact row_mem (n := m * 9) (by omega) hlt
    · obtain ⟨i, hi', rfl⟩ := List.mem_iff_getElem.1 hn
      exact (hns i hi').2
    · unfold maxLen at hm; omega
set_option maxRecDepth 100000 in
theorem open_parts {fuel : Nat} {v : Value} {x : DataW H × List MemPlace} (h : DataW.trod enc Tryd.prog W 0 (fun _ => true) held fuel 31 [v] = some x) (hlt : ∀ y ∈ x.2, y.block < W.heap.size) :
    ∃ (A : Option Addr) (ps : List Pt) (c : Nat), v = .slice A ps.length c ∧ PartsAt W A ps ∧ (∀ p ∈ ps, -9223372036854775808 ≤ p.root ∧ p.root ≤ 9223372036854775807) ∧ ps.length ≤ 9223372036854775807 := by
  rcases Go.Deep.open_slice Tryd.underlying31 h with ⟨hcs, hx⟩ | ⟨a, len, cap, m, n, D, Pl, hcs, hb, hl, hm, hmm, hx, hi⟩
  · injection hcs with hv _
    exact ⟨none, [], 0, hv, fun i hi => by simp at hi, fun n hn => by simp at hn, by simp⟩
  · injection hcs with hv _
    simp only [if_true] at hmm
    rw [c_part] at hi hx
    obtain ⟨ps, hnl, hns⟩ := list_of (P := fun i (p : Pt) => (W.cell? (a.add (i * 2)) = some (.int .i64 p.root) ∧ W.cell? ⟨(a.add (i * 2)).block, (a.add (i * 2)).off + 1, none⟩ = some (.bool p.no)) ∧ -9223372036854775808 ≤ p.root ∧ p.root ≤ 9223372036854775807) len fun i hil => by
      obtain ⟨cs', hc, ht⟩ := hi i (by omega)
      obtain ⟨pt, rfl, hok⟩ := open_part ht
      obtain ⟨_, _, hat⟩ := World.cells?_some hc
      have h0 := hat 0 (by omega)
      have a0 : (a.add (i * 2)).add 0 = a.add (i * 2) := by unfold Addr.add; rw [if_pos rfl]
      rw [a0] at h0
      exact ⟨pt, ⟨h0, hat 1 (by omega)⟩, hok⟩
    refine ⟨some a, ps, cap, by rw [hv, hnl], fun i hi' => ⟨a, rfl, ?_, (hns i hi').1⟩, fun n hn => ?_, ?_⟩
    · rw [hx] at hlt
      exact row_mem (n := m * 2) (by omega) hlt
    · obtain ⟨i, hi', rfl⟩ := List.mem_iff_getElem.1 hn
      exact (hns i hi').2
    · unfold maxLen at hm; omega
set_option maxRecDepth 100000 in
theorem open_tree {bb : Nat} {v : Value} {d : DataW H} {p : List MemPlace} (hv : Value.okWide Tryd.prog W .any bb 33 v) (h : DataW.Trod enc Tryd.prog W 0 (fun _ => true) true 33 v d p) (hlt : ∀ x ∈ p, x.block < W.heap.size) :
    ∃ (A A' : Option Addr) (ns : List Nd) (ps : List Pt) (c c' : Nat), v = .agg #[.slice A ns.length c, .slice A' ps.length c'] ∧ TreeAt W A A' ns ps := by
  obtain ⟨v0, v1, y0, y1, n, rfl, _, rfl, h0, h1⟩ := Go.Joins.open_agg2 Tryd.underlying33 (by kernel_rfl) (by kernel_rfl) hv h
  obtain ⟨A, ns, c, rfl, g1, g2, g3⟩ := open_nodes h0 fun x hx => hlt x (List.mem_append_left _ hx)
  obtain ⟨A', ps, c', rfl, k1, k2, k3⟩ := open_parts h1 fun x hx => hlt x (List.mem_append_right _ hx)
  exact ⟨A, A', ns, ps, c, c', rfl, ⟨g1, k1, g2, k2, g3, k3⟩⟩
end
section
variable {H : Type} {enc : TypeId × Value → H} {P : Program}
theorem post_of_below {f : Func} {s : ChangeSpec} {apart fresh handsOn again : Bool} {W W' : World} {args : Array Value} {v : Value} {ds gs : List (DataW H)} {before pa pv : List MemPlace}
    (hW : DataW.Whole enc P f.params.toList s.vars apart W args.toList ds gs before)
    (hres : ∀ (b : Nat) (sp : Nat → Bool) (hd : Bool), DataW.TrodAll enc P W' b sp hd f.resultTypes.toList (v.resultList f.resultTypes.size) (s.fn H (ds ++ gs)).results [])
    (hargs : ∀ sp : Nat → Bool, (∀ p ∈ before, sp p.block = true) → DataW.TrodAll enc P W' 0 sp true f.params.toList args.toList (s.fn H (ds ++ gs)).args pa)
    (hvars : ∀ sp : Nat → Bool, (∀ p ∈ before, sp p.block = true) → DataW.TrodVars enc P W' sp s.vars (s.fn H (ds ++ gs)).vars pv)
    (hps : before = pa ++ pv) (hb : Below W.heap.size W W')
    (hok : ∀ (j : Nat) (t : TypeId) (r : Value), f.resultTypes[j]? = some t → (v.resultList f.resultTypes.size)[j]? = some r → Value.okWide P W' .any 0 t r) :
    s.post enc P f apart fresh handsOn again W args v W' := by
  have hlt : ∀ p ∈ before, p.block < W.heap.size := fun p hp => hW.lt p hp
  have hold : ∀ p ∈ before, (fun b => decide (b < W.heap.size)) p.block = true := fun p hp => by simpa using hlt p hp
  refine ⟨ds, gs, before, [], pa, pv, hW, hres _ _ _, hargs _ hold, hvars _ hold, World.keptBut_mono (fun p hp => ⟨hp, ?_⟩) (hb.frame (· ∈ before)), fun _ => ?_⟩
  · rw [hps, List.mem_append] at hp
    exact Or.inr hp
  · obtain ⟨_, _, _, _, _, hz, hn⟩ := hW
    refine ⟨hok, _, _, ([] ++ pa) ++ pv, ⟨[] ++ pa, pv, trodAll_append (hargs _ (fun _ _ => rfl)) (hres _ _ _), hvars _ (fun _ _ => rfl), rfl, ?_, ?_⟩, ?_⟩
    · intro b off hp
      have hin : MemPlace.cell b off ∈ before := by rw [hps]; simpa using hp
      rw [hb.frozen (hlt _ hin)]
      exact hz b off hin
    · intro ha
      have := hn ha
      rw [hps] at this
      simpa using this
    · intro p hp _
      rw [hps]
      simpa using hp
end


theorem laidOut : laidOutB Tryd.prog = true := by kernel_rfl
/-- An argument reads behind the call as it did. -/
theorem arg_stays {H : Type} {enc : TypeId × Value → H} {t : TypeId} (hr : Tryd.prog.readableRec t = true) (hrow : t < Tryd.prog.types.size) {W W' : World} {sp : Nat → Bool} {v : Value} {d : DataW H} {ps : List MemPlace}
    (h : DataW.Trod enc Tryd.prog W 0 (fun _ => true) true t v d ps) (hb : Below W.heap.size W W') (hlt : ∀ x ∈ ps, x.block < W.heap.size) (hs : ∀ x ∈ ps, sp x.block = true) : DataW.Trod enc Tryd.prog W' 0 sp true t v d ps :=
  WideElems.Trod_stays laidOut hr hrow h (fun x hx => hb.same (hlt x hx)) hs
end Go.Proofs.YtebkaajnnjfhjaaDoor
