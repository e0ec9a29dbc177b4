/-
  Two other rows of pow10Tab.
-/
import Derived.Test.YtedllapajgcfeaaDoorRow5
import Derived.Test.YtedllapajgcfeaaDoorKn5
namespace Go.Proofs.YtedllapajgcfeaaDoor
set_option linter.unusedVariables false
set_option linter.unusedSimpArgs false
open Go.ChangeShapes Go.WideShapes Go.ChangeAt Go.RowKit

set_option maxRecDepth 100000 in
theorem row_364 : (Go.Pinned.pow10Rows.map fun x => (DataW.agg [.lit (.int .u64 x.1), .lit (.int .u64 x.2)] : DataW Unit))[364]? = some (.agg [.lit (.int .u64 10240000000000000000), .lit (.int .u64 0)]) := by
  rw [List.getElem?_map, show Go.Pinned.pow10Rows[364]? = some (10240000000000000000, 0) by kernel_rfl]
  rfl
set_option maxRecDepth 100000 in
theorem powSv_of {W : World} (h : Lib.VarReads Tryd.prog W "internal/strconv.pow10Tab" Go.Pinned.pow10Tab) : PowSv W := by
  obtain ⟨g, t, cs, fuel, p, hg, ht, hv, hd⟩ := h
  obtain rfl := Option.some.inj ((show Tryd.prog.globalNamed "internal/strconv.pow10Tab" = some 3 by kernel_rfl).symm.trans hg)
  obtain rfl := Option.some.inj ((show (Tryd.prog.globals[3]?).map (·.type) = some 120 by kernel_rfl).symm.trans ht)
  obtain ⟨f1, d, q, hdd, he⟩ := Lib.array_elem Tryd.underlying120 hd 364 (by decide)
  obtain rfl := Option.some.inj (row_364.symm.trans hdd)
  have hc2 : Tryd.prog.cellsOf 119 = 2 := by kernel_rfl
  have hc1 : Tryd.prog.cellsOf 38 = 1 := by kernel_rfl
  rw [hc2] at he
  obtain ⟨xs, m, _, ex, hlen, hxl, hf⟩ := DataW.trod_struct Tryd.underlying119 he
  rw [hc2] at hlen
  have h0 : DataW.trod (fun _ => ()) Tryd.prog W 0 (fun _ => true) false m 38 ((((cs.toList.drop (364 * 2)).take 2).drop 0).take (Tryd.prog.cellsOf 38)) = xs[0]? := hf 0 _ rfl
  have h1 : DataW.trod (fun _ => ()) Tryd.prog W 0 (fun _ => true) false m 38 ((((cs.toList.drop (364 * 2)).take 2).drop 1).take (Tryd.prog.cellsOf 38)) = xs[1]? := hf 1 _ rfl
  rw [hc1] at h0 h1
  have e4 : xs.map (·.1) = [.lit (.int .u64 10240000000000000000), .lit (.int .u64 0)] := (DataW.agg.inj (Prod.mk.inj ex).1).symm
  match xs, e4 with
  | [y0, y1], e4 =>
    obtain ⟨z0, q0, q1, _⟩ := DataW.trod_int Tryd.underlying38 h0
    obtain ⟨z1, r0, r1, _⟩ := DataW.trod_int Tryd.underlying38 h1
    simp only [List.map_cons, List.map_nil, List.cons.injEq, and_true] at e4
    have k0 : cs.toList[728]? = some (.int .u64 z0) := by
      have := congrArg (·[0]?) q0
      simpa [List.getElem?_take, List.getElem?_drop] using this
    have k1 : cs.toList[729]? = some (.int .u64 z1) := by
      have := congrArg (·[0]?) r0
      simpa [List.getElem?_take, List.getElem?_drop] using this
    have g0 : z0 = 10240000000000000000 := by
      have := q1 ▸ e4.1
      simpa using this
    have g1 : z1 = 0 := by
      have := r1 ▸ e4.2
      simpa using this
    subst g0 g1
    have c0 : W.cell? ⟨3, 728, none⟩ = some (.int .u64 10240000000000000000) := by rw [World.var?_cell hg hv 728]; simpa using k0
    have c1 : W.cell? ⟨3, 729, none⟩ = some (.int .u64 0) := by rw [World.var?_cell hg hv 729]; simpa using k1
    refine ⟨c0, c1, ?_⟩
    unfold World.cell? at c0
    rcases Nat.lt_or_ge 3 W.heap.size with h' | h'
    · exact h'
    · simp only [Array.getElem?_eq_none h'] at c0
      cases c0
set_option maxRecDepth 100000 in
theorem row_64 : (Go.Pinned.pow10Rows.map fun x => (DataW.agg [.lit (.int .u64 x.1), .lit (.int .u64 x.2)] : DataW Unit))[64]? = some (.agg [.lit (.int .u64 13715310171984221709), .lit (.int .u64 15867139798476597932)]) := by
  rw [List.getElem?_map, show Go.Pinned.pow10Rows[64]? = some (13715310171984221709, 15867139798476597932) by kernel_rfl]
  rfl
set_option maxRecDepth 100000 in
theorem powTh_of {W : World} (h : Lib.VarReads Tryd.prog W "internal/strconv.pow10Tab" Go.Pinned.pow10Tab) : PowTh W := by
  obtain ⟨g, t, cs, fuel, p, hg, ht, hv, hd⟩ := h
  obtain rfl := Option.some.inj ((show Tryd.prog.globalNamed "internal/strconv.pow10Tab" = some 3 by kernel_rfl).symm.trans hg)
  obtain rfl := Option.some.inj ((show (Tryd.prog.globals[3]?).map (·.type) = some 120 by kernel_rfl).symm.trans ht)
  obtain ⟨f1, d, q, hdd, he⟩ := Lib.array_elem Tryd.underlying120 hd 64 (by decide)
  obtain rfl := Option.some.inj (row_64.symm.trans hdd)
  have hc2 : Tryd.prog.cellsOf 119 = 2 := by kernel_rfl
  have hc1 : Tryd.prog.cellsOf 38 = 1 := by kernel_rfl
  rw [hc2] at he
  obtain ⟨xs, m, _, ex, hlen, hxl, hf⟩ := DataW.trod_struct Tryd.underlying119 he
  rw [hc2] at hlen
  have h0 : DataW.trod (fun _ => ()) Tryd.prog W 0 (fun _ => true) false m 38 ((((cs.toList.drop (64 * 2)).take 2).drop 0).take (Tryd.prog.cellsOf 38)) = xs[0]? := hf 0 _ rfl
  have h1 : DataW.trod (fun _ => ()) Tryd.prog W 0 (fun _ => true) false m 38 ((((cs.toList.drop (64 * 2)).take 2).drop 1).take (Tryd.prog.cellsOf 38)) = xs[1]? := hf 1 _ rfl
  rw [hc1] at h0 h1
  have e4 : xs.map (·.1) = [.lit (.int .u64 13715310171984221709), .lit (.int .u64 15867139798476597932)] := (DataW.agg.inj (Prod.mk.inj ex).1).symm
  match xs, e4 with
  | [y0, y1], e4 =>
    obtain ⟨z0, q0, q1, _⟩ := DataW.trod_int Tryd.underlying38 h0
    obtain ⟨z1, r0, r1, _⟩ := DataW.trod_int Tryd.underlying38 h1
    simp only [List.map_cons, List.map_nil, List.cons.injEq, and_true] at e4
    have k0 : cs.toList[128]? = some (.int .u64 z0) := by
      have := congrArg (·[0]?) q0
      simpa [List.getElem?_take, List.getElem?_drop] using this
    have k1 : cs.toList[129]? = some (.int .u64 z1) := by
      have := congrArg (·[0]?) r0
      simpa [List.getElem?_take, List.getElem?_drop] using this
    have g0 : z0 = 13715310171984221709 := by
      have := q1 ▸ e4.1
      simpa using this
    have g1 : z1 = 15867139798476597932 := by
      have := r1 ▸ e4.2
      simpa using this
    subst g0 g1
    have c0 : W.cell? ⟨3, 128, none⟩ = some (.int .u64 13715310171984221709) := by rw [World.var?_cell hg hv 128]; simpa using k0
    have c1 : W.cell? ⟨3, 129, none⟩ = some (.int .u64 15867139798476597932) := by rw [World.var?_cell hg hv 129]; simpa using k1
    refine ⟨c0, c1, ?_⟩
    unfold World.cell? at c0
    rcases Nat.lt_or_ge 3 W.heap.size with h' | h'
    · exact h'
    · simp only [Array.getElem?_eq_none h'] at c0
      cases c0
theorem laid_ofk {W : World} (h : laidMetH Tryd.prog laid6 W) : Tk W := by
  rw [MakeChecks.laidMetH_plain _ _ _ (by kernel_rfl)] at h
  have h1 := Lib.laidMet.reads h (n := "internal/strconv.pow10Tab") (d := Rows.laid_internal_strconv_pow10Tab) (by simp [laid6])
  have h2 := Lib.laidMet.reads h (n := "internal/strconv.uint64pow10") (d := Rows.laid_internal_strconv_uint64pow10) (by simp [laid6])
  rw [pow_eq] at h2
  exact ⟨⟨pow_of h1, tabIs_of_reads (P := Tryd.prog) (g := 2) (t := 110) (e := 38) (n := 20) (by kernel_rfl) (by kernel_rfl) (by kernel_rfl) (by kernel_rfl) (by kernel_rfl) (by kernel_rfl) h2⟩, powSv_of h1, powTh_of h1⟩
theorem known_row (W : World) (h : Tk W) : Calls Tryd.prog 6 #[] W fun e w' => e = .returned (.bool true) ∧ Below W.heap.size W w' := known5_any W h
end Go.Proofs.YtedllapajgcfeaaDoor
