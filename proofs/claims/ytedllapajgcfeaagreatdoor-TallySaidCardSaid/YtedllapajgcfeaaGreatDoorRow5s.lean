/-
  The tables of TallySaid out of what is laid.
-/
import Derived.Test.YtedllapajgcfeaaGreatDoorWn
import Derived.Test.YtedllapajgcfeaaGreatDoorRow5
namespace Go.Proofs.YtedllapajgcfeaaGreatDoor
set_option linter.unusedVariables false
set_option linter.unusedSimpArgs false
open Go.ChangeShapes Go.WideShapes Go.ChangeAt Go.RowKit

def laid13 : List (String × DataW Unit) := Rows.tallySaidRow.laid
theorem lt_of_cell {W : World} {g o : Nat} {v : Value} (h : W.cell? ⟨g, o, none⟩ = some v) : g < W.heap.size := by
  unfold World.cell? at h
  rcases Nat.lt_or_ge g W.heap.size with h' | h'
  · exact h'
  · simp only [Array.getElem?_eq_none h'] at h
    cases h
set_option maxRecDepth 100000 in
theorem tabP_of {W : World} (h : Lib.VarReads Tryz.prog W "internal/strconv.pow10Tab" Go.Pinned.pow10Tab) : TabP W := by
  obtain ⟨g, t, cs, fuel, p, hg, ht, hv, hd⟩ := h
  obtain rfl := Option.some.inj ((show Tryz.prog.globalNamed "internal/strconv.pow10Tab" = some 10 by kernel_rfl).symm.trans hg)
  obtain rfl := Option.some.inj ((show (Tryz.prog.globals[10]?).map (·.type) = some 166 by kernel_rfl).symm.trans ht)
  have hc2 : Tryz.prog.cellsOf 165 = 2 := by kernel_rfl
  have hc1 : Tryz.prog.cellsOf 53 = 1 := by kernel_rfl
  have key : ∀ i : Nat, i < 696 → W.cell? ⟨10, i * 2, none⟩ = some (.int .u64 ((Go.Pinned.pow10Rows.getD i (0, 0)).1 : Nat)) ∧ W.cell? ⟨10, i * 2 + 1, none⟩ = some (.int .u64 ((Go.Pinned.pow10Rows.getD i (0, 0)).2 : Nat)) := by
    intro i hi
    obtain ⟨f1, d, q, hdd, he⟩ := Lib.array_elem Tryz.underlying166 hd i hi
    have hlt : i < Go.Pinned.pow10Rows.length := by rw [Sc.rows_len]; exact hi
    have hrow : (Go.Pinned.pow10Rows.map fun x => (DataW.agg [.lit (.int .u64 x.1), .lit (.int .u64 x.2)] : DataW Unit))[i]? = some (.agg [.lit (.int .u64 (Go.Pinned.pow10Rows.getD i (0, 0)).1), .lit (.int .u64 (Go.Pinned.pow10Rows.getD i (0, 0)).2)]) := by
      rw [List.getElem?_map, List.getElem?_eq_getElem hlt, List.getD_eq_getElem?_getD, List.getElem?_eq_getElem hlt]
      rfl
    obtain rfl := Option.some.inj (hrow.symm.trans hdd)
    generalize Go.Pinned.pow10Rows.getD i (0, 0) = rw0 at *
    obtain ⟨ra, rb⟩ := rw0
    rw [hc2] at he
    obtain ⟨xs, m, _, ex, hlen, hxl, hf⟩ := DataW.trod_struct Tryz.underlying165 he
    rw [hc2] at hlen
    have h0 : DataW.trod (fun _ => ()) Tryz.prog W 0 (fun _ => true) false m 53 ((((cs.toList.drop (i * 2)).take 2).drop 0).take (Tryz.prog.cellsOf 53)) = xs[0]? := hf 0 _ rfl
    have h1 : DataW.trod (fun _ => ()) Tryz.prog W 0 (fun _ => true) false m 53 ((((cs.toList.drop (i * 2)).take 2).drop 1).take (Tryz.prog.cellsOf 53)) = xs[1]? := hf 1 _ rfl
    rw [hc1] at h0 h1
    have e4 : xs.map (·.1) = [.lit (.int .u64 (ra : Nat)), .lit (.int .u64 (rb : Nat))] := (DataW.agg.inj (Prod.mk.inj ex).1).symm
    match xs, e4 with
    | [y0, y1], e4 =>
      obtain ⟨z0, q0, q1, _⟩ := DataW.trod_int Tryz.underlying53 h0
      obtain ⟨z1, r0, r1, _⟩ := DataW.trod_int Tryz.underlying53 h1
      simp only [List.map_cons, List.map_nil, List.cons.injEq, and_true] at e4
      have k0 : cs.toList[i * 2]? = some (.int .u64 z0) := by
        have := congrArg (·[0]?) q0
        simpa [List.getElem?_take, List.getElem?_drop] using this
      have k1 : cs.toList[i * 2 + 1]? = some (.int .u64 z1) := by
        have := congrArg (·[0]?) r0
        simpa [List.getElem?_take, List.getElem?_drop] using this
      have g0 : z0 = (ra : Nat) := by
        have := q1 ▸ e4.1
        simpa using this
      have g1 : z1 = (rb : Nat) := by
        have := r1 ▸ e4.2
        simpa using this
      subst g0 g1
      refine ⟨?_, ?_⟩
      · rw [World.var?_cell hg hv (i * 2)]; simpa using k0
      · rw [World.var?_cell hg hv (i * 2 + 1)]; simpa using k1
  refine ⟨lt_of_cell (key 0 (by decide)).1, fun P h1 h2 => ?_⟩
  exact key (P + 348).toNat (by omega)
set_option maxRecDepth 100000 in
theorem info_of {W : World} (h : Lib.VarReads Tryz.prog W "internal/strconv.float64info" Rows.laid_internal_strconv_float64info) : W.cell? ⟨5, 0, none⟩ = some (.int .u64 52) := by
  obtain ⟨g, t, cs, fuel, p, hg, ht, hv, hd⟩ := h
  obtain rfl := Option.some.inj ((show Tryz.prog.globalNamed "internal/strconv.float64info" = some 5 by kernel_rfl).symm.trans hg)
  obtain rfl := Option.some.inj ((show (Tryz.prog.globals[5]?).map (·.type) = some 107 by kernel_rfl).symm.trans ht)
  have hc1 : Tryz.prog.cellsOf 65 = 1 := by kernel_rfl
  obtain ⟨xs, m, _, ex, hlen, hxl, hf⟩ := DataW.trod_struct Tryz.underlying107 hd
  have h0 : DataW.trod (fun _ => ()) Tryz.prog W 0 (fun _ => true) false m 65 ((cs.toList.drop 0).take (Tryz.prog.cellsOf 65)) = xs[0]? := hf 0 _ rfl
  rw [hc1] at h0
  have e4 : xs.map (·.1) = [.lit (.int .u64 52), .lit (.int .u64 11), .lit (.int .i64 (-1023))] := (DataW.agg.inj (Prod.mk.inj ex).1).symm
  match xs, e4 with
  | [y0, y1, y2], e4 =>
    obtain ⟨z0, q0, q1, _⟩ := DataW.trod_int Tryz.underlying65 h0
    simp only [List.map_cons, List.map_nil, List.cons.injEq, and_true] at e4
    have k0 : cs.toList[0]? = some (.int .u64 z0) := by
      have := congrArg (·[0]?) q0
      simpa [List.getElem?_take, List.getElem?_drop] using this
    have g0 : z0 = 52 := by
      have := q1 ▸ e4.1
      simpa using this
    subst g0
    rw [World.var?_cell hg hv 0]; simpa using k0
theorem opt_of {W : World} (h : Lib.VarReads Tryz.prog W "internal/strconv.optimize" Rows.laid_internal_strconv_optimize) : W.cell? ⟨3, 0, none⟩ = some (.bool true) := by
  obtain ⟨g, t, cs, fuel, p, hg, ht, hv, hd⟩ := h
  obtain rfl := Option.some.inj ((show Tryz.prog.globalNamed "internal/strconv.optimize" = some 3 by kernel_rfl).symm.trans hg)
  obtain rfl := Option.some.inj ((show (Tryz.prog.globals[3]?).map (·.type) = some 4 by kernel_rfl).symm.trans ht)
  obtain ⟨b, q0, q1⟩ := DataW.trod_bool Tryz.underlying4 hd
  have e : b = true := by
    have := (Prod.mk.inj q1).1
    unfold Rows.laid_internal_strconv_optimize at this
    simpa using this.symm
  subst e
  have k0 : cs.toList[0]? = some (.bool true) := by rw [q0]; rfl
  rw [World.var?_cell hg hv 0]; simpa using k0
def p10L : List Nat := (List.range 23).map Sc.pw
theorem p10_data : Rows.laid_internal_strconv_float64pow10 = (DataW.slice (p10L.map fun b => .lit (.float .f64 b)) [] : DataW Unit) := by kernel_rfl
section
variable {H : Type} {enc : TypeId × Value → H} {P : Program}
theorem trod_flt2 {w : World} {base : Nat} {spare : Nat → Bool} {held : Bool} {n : Nat} {e : TypeId} {cs : List Value} {y : DataW H × List MemPlace} (he : P.underlying e = some (.float .f64)) (h : DataW.trod enc P w base spare held n e cs = some y) : ∃ b, cs = [.float .f64 b] ∧ y.1 = .lit (.float .f64 b) := by
  cases n with
  | zero => simp [DataW.trod] at h
  | succ n =>
    unfold DataW.trod at h
    rw [he] at h
    split at h <;> simp_all [Lit.wf]
    rename_i hk
    subst hk
    obtain ⟨h1, h2⟩ := Option.ite_none_right_eq_some.1 h
    refine ⟨_, ⟨h1.1, rfl⟩, ?_⟩
    have := Option.some.inj h2
    rw [← this]
end
theorem p10_of {W : World} (h : Lib.VarReads Tryz.prog W "internal/strconv.float64pow10" Rows.laid_internal_strconv_float64pow10) : W.cell? ⟨9, 0, none⟩ ≠ none ∧ ∃ A : Addr, W.cell? ⟨9, 0, none⟩ = some (.slice (some A) 23 23) ∧ A.block < W.heap.size ∧ ∀ k, k < 23 → W.cell? (A.add k) = some (.float .f64 (Sc.pw k)) := by
  obtain ⟨g, t, cs, fuel, p, hg, ht, hv, hd⟩ := h
  obtain rfl := Option.some.inj ((show Tryz.prog.globalNamed "internal/strconv.float64pow10" = some 9 by kernel_rfl).symm.trans hg)
  obtain rfl := Option.some.inj ((show (Tryz.prog.globals[9]?).map (·.type) = some 32 by kernel_rfl).symm.trans ht)
  have hc1 : Tryz.prog.cellsOf 22 = 1 := by kernel_rfl
  rw [p10_data] at hd
  have hp : p10L.length = 23 := by simp [p10L]
  rcases DataW.trod_slice Tryz.underlying32 hd with ⟨_, hx⟩ | ⟨a, len, cap, elems, rest, n, _, hcs, hx, _, hl, hm, hlen, hel, hsp, _⟩
  · simp at hx
  · simp only [Prod.mk.injEq, DataW.slice.injEq] at hx
    obtain ⟨⟨hx1, hx2⟩, _⟩ := hx
    have hr0 : rest = [] := by
      cases rest with
      | nil => rfl
      | cons y ys => simp at hx2
    have hcap := (hsp rfl).1
    rw [hr0] at hcap
    have hl23 : len = 23 := by
      have := congrArg List.length hx1
      simp [hp] at this
      omega
    have hc23 : cap = 23 := by simp at hcap; omega
    subst hl23 hc23
    have hcell : W.cell? ⟨9, 0, none⟩ = some (.slice (some a) 23 23) := by
      have k0 : cs.toList[0]? = some (.slice (some a) 23 23) := by rw [hcs]; rfl
      rw [World.var?_cell hg hv 0]; simpa using k0
    have each : ∀ i, i < 23 → W.cell? (a.add i) = some (.float .f64 (Sc.pw i)) := by
      intro i hi
      have h1 := hel i hi
      rw [hc1, Nat.mul_one, List.getElem?_eq_getElem (by omega)] at h1
      obtain ⟨cs', hcs', hy⟩ := Option.bind_eq_some_iff.1 h1
      obtain ⟨b, rfl, hb⟩ := trod_flt2 Tryz.underlying22 hy
      have e2 := congrArg (fun l : List (DataW Unit) => l[i]?) hx1
      simp only [List.getElem?_map] at e2
      rw [List.getElem?_eq_getElem (show i < elems.length by omega), List.getElem?_eq_getElem (show i < p10L.length by omega)] at e2
      simp only [Option.map_some, Option.some.injEq] at e2
      rw [hb] at e2
      have e3 : p10L[i]'(by omega) = Sc.pw i := by simp [p10L]
      rw [e3] at e2
      generalize Sc.pw i = pv at e2 ⊢
      have e5 : pv = b := by simpa using e2
      rw [e5]
      exact cell_of_cells?_one hcs'
    refine ⟨by rw [hcell]; simp, a, hcell, ?_, each⟩
    have := each 0 (by decide)
    have hz : a.add 0 = a := rfl
    rw [hz] at this
    obtain ⟨b, off, spot⟩ := a
    unfold World.cell? at this
    rcases Nat.lt_or_ge b W.heap.size with h' | h'
    · exact h'
    · simp only [Array.getElem?_eq_none h'] at this
      cases this
theorem laid_of13 {W : World} (h : laidMetH Tryz.prog laid13 W) : Tb W ∧ TabQ W := by
  rw [MakeChecks.laidMetH_plain _ _ _ (by kernel_rfl)] at h
  have h1 := Lib.laidMet.reads h (n := "internal/strconv.pow10Tab") (d := Rows.laid_internal_strconv_pow10Tab) (by simp [laid13, Rows.tallySaidRow])
  have h2 := Lib.laidMet.reads h (n := "internal/strconv.uint64pow10") (d := Rows.laid_internal_strconv_uint64pow10) (by simp [laid13, Rows.tallySaidRow])
  have h3 := Lib.laidMet.reads h (n := "internal/strconv.float64info") (d := Rows.laid_internal_strconv_float64info) (by simp [laid13, Rows.tallySaidRow])
  have h4 := Lib.laidMet.reads h (n := "internal/strconv.optimize") (d := Rows.laid_internal_strconv_optimize) (by simp [laid13, Rows.tallySaidRow])
  have h5 := Lib.laidMet.reads h (n := "internal/strconv.float64pow10") (d := Rows.laid_internal_strconv_float64pow10) (by simp [laid13, Rows.tallySaidRow])
  rw [pow_eq] at h2
  have q1 := info_of h3
  have q2 := opt_of h4
  obtain ⟨_, A, a1, a2, a3⟩ := p10_of h5
  exact ⟨⟨pow_of h1, tabIs_of_reads (P := Tryz.prog) (g := 6) (t := 147) (e := 53) (n := 20) (by kernel_rfl) (by kernel_rfl) (by kernel_rfl) (by kernel_rfl) (by kernel_rfl) (by kernel_rfl) h2⟩,
    ⟨tabP_of h1, ⟨q1, ⟨A, a1, a2, a3⟩, lt_of_cell q1, lt_of_cell a1⟩, q2, lt_of_cell q2⟩⟩
theorem said_row (x : Nat) (hx : x < 18446744073709551616) (W : World) (h : Tb W ∧ TabQ W) : Calls Tryz.prog 3 #[.float .f64 x] W fun e w' => e = .returned (.bool true) ∧ Below W.heap.size W w' := said_any x hx W h.1 h.2
end Go.Proofs.YtedllapajgcfeaaGreatDoor
