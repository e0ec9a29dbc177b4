/-
  Small words for the rows of this seat: the tables.
-/
import Derived.Test.YtedllapajgcfeaaGreatDoorTFg
import Derived.Test.YtedllapajgcfeaaGreatDoorRows
import Derived.WalkKit
import Derived.ProofKit
import Derived.OpenShut
import Derived.ShutString
import Derived.Carry
import Derived.ChangeSlices
import Derived.LaidMore
import Derived.LaidLaws
import Derived.Lay
import Derived.Lib.LaidU8
import Derived.Lib.SmallJoins
import Derived.Deep.Slices
import Derived.Laws.Cover2
namespace Go.Proofs.YtedllapajgcfeaaGreatDoor
set_option linter.unusedVariables false
set_option linter.unusedSimpArgs false
open Go.ChangeShapes Go.WideShapes Go.ChangeAt Go.RowKit

theorem own : ownKnob Tryz.prog.godebug = none := by kernel_rfl
theorem tabIs_of_reads {P : Program} {W : World} {name : String} {k : IntKind} {zs : List Int} {g : Nat} {t e : TypeId} {n : Nat}
    (hg : P.globalNamed name = some g) (hty : (P.globals[g]?).map (·.type) = some t) (ht : P.underlying t = some (.array n e)) (he : P.underlying e = some (.int k)) (hce : P.cellsOf e = 1) (hct : P.cellsOf t = n)
    (h : Lib.VarReads P W name (Lib.tabData k zs)) : Lib.TabIs P W name k zs := by
  obtain ⟨g', t', cs, fuel, p, hg', ht', hvar, hd⟩ := h
  obtain rfl := Option.some.inj (hg.symm.trans hg')
  obtain rfl := Option.some.inj (hty.symm.trans ht')
  unfold Lib.TabIs
  rw [hvar, ← Lib.cells_of_tab ht he hce hct hd]
def laid6 : List (String × DataW Unit) := [("math/bits.deBruijn32tab", Rows.laid_math_bits_deBruijn32tab), ("math/bits.deBruijn64tab", Rows.laid_math_bits_deBruijn64tab), ("internal/strconv.optimize", Rows.laid_internal_strconv_optimize), ("internal/strconv.uint64pow10", Rows.laid_internal_strconv_uint64pow10), ("internal/strconv.leftcheats", Rows.laid_internal_strconv_leftcheats), ("internal/strconv.pow10Tab", Rows.laid_internal_strconv_pow10Tab)]
theorem pow_eq : Rows.laid_internal_strconv_uint64pow10 = (Lib.tabData .u64 Lib.pow10Tab : DataW Unit) := by kernel_rfl
set_option maxRecDepth 100000 in
theorem row_365 : (Go.Pinned.pow10Rows.map fun x => (DataW.agg [.lit (.int .u64 x.1), .lit (.int .u64 x.2)] : DataW Unit))[365]? = some (.agg [.lit (.int .u64 12800000000000000000), .lit (.int .u64 0)]) := by
  rw [List.getElem?_map, show Go.Pinned.pow10Rows[365]? = some (12800000000000000000, 0) by kernel_rfl]
  rfl
set_option maxRecDepth 100000 in
theorem pow_of {W : World} (h : Lib.VarReads Tryz.prog W "internal/strconv.pow10Tab" Go.Pinned.pow10Tab) : Pow W := by
  obtain ⟨g, t, cs, fuel, p, hg, ht, hv, hd⟩ := h
  obtain rfl := Option.some.inj ((show Tryz.prog.globalNamed "internal/strconv.pow10Tab" = some 10 by kernel_rfl).symm.trans hg)
  obtain rfl := Option.some.inj ((show (Tryz.prog.globals[10]?).map (·.type) = some 166 by kernel_rfl).symm.trans ht)
  obtain ⟨f1, d, q, hdd, he⟩ := Lib.array_elem Tryz.underlying166 hd 365 (by decide)
  obtain rfl := Option.some.inj (row_365.symm.trans hdd)
  have hc2 : Tryz.prog.cellsOf 165 = 2 := by kernel_rfl
  have hc1 : Tryz.prog.cellsOf 53 = 1 := by kernel_rfl
  rw [hc2] at he
  obtain ⟨xs, m, _, ex, hlen, hxl, hf⟩ := DataW.trod_struct Tryz.underlying165 he
  rw [hc2] at hlen
  have h0 : DataW.trod (fun _ => ()) Tryz.prog W 0 (fun _ => true) false m 53 ((((cs.toList.drop (365 * 2)).take 2).drop 0).take (Tryz.prog.cellsOf 53)) = xs[0]? := hf 0 _ rfl
  have h1 : DataW.trod (fun _ => ()) Tryz.prog W 0 (fun _ => true) false m 53 ((((cs.toList.drop (365 * 2)).take 2).drop 1).take (Tryz.prog.cellsOf 53)) = xs[1]? := hf 1 _ rfl
  rw [hc1] at h0 h1
  have e4 : xs.map (·.1) = [.lit (.int .u64 12800000000000000000), .lit (.int .u64 0)] := (DataW.agg.inj (Prod.mk.inj ex).1).symm
  match xs, e4 with
  | [y0, y1], e4 =>
    obtain ⟨z0, q0, q1, _⟩ := DataW.trod_int Tryz.underlying53 h0
    obtain ⟨z1, r0, r1, _⟩ := DataW.trod_int Tryz.underlying53 h1
    simp only [List.map_cons, List.map_nil, List.cons.injEq, and_true] at e4
    have k0 : cs.toList[730]? = some (.int .u64 z0) := by
      have := congrArg (·[0]?) q0
      simpa [List.getElem?_take, List.getElem?_drop] using this
    have k1 : cs.toList[731]? = some (.int .u64 z1) := by
      have := congrArg (·[0]?) r0
      simpa [List.getElem?_take, List.getElem?_drop] using this
    have g0 : z0 = 12800000000000000000 := by
      have := q1 ▸ e4.1
      simpa using this
    have g1 : z1 = 0 := by
      have := r1 ▸ e4.2
      simpa using this
    subst g0 g1
    have c0 : W.cell? ⟨10, 730, none⟩ = some (.int .u64 12800000000000000000) := by rw [World.var?_cell hg hv 730]; simpa using k0
    have c1 : W.cell? ⟨10, 731, none⟩ = some (.int .u64 0) := by rw [World.var?_cell hg hv 731]; simpa using k1
    refine ⟨c0, c1, ?_⟩
    unfold World.cell? at c0
    rcases Nat.lt_or_ge 10 W.heap.size with h' | h'
    · exact h'
    · simp only [Array.getElem?_eq_none h'] at c0
      cases c0
theorem laid_of {W : World} (h : laidMetH Tryz.prog laid6 W) : Tb W := by
  rw [MakeChecks.laidMetH_plain _ _ _ (by kernel_rfl)] at h
  have h1 := Lib.laidMet.reads h (n := "internal/strconv.pow10Tab") (d := Rows.laid_internal_strconv_pow10Tab) (by simp [laid6])
  have h2 := Lib.laidMet.reads h (n := "internal/strconv.uint64pow10") (d := Rows.laid_internal_strconv_uint64pow10) (by simp [laid6])
  rw [pow_eq] at h2
  exact ⟨pow_of h1, tabIs_of_reads (P := Tryz.prog) (g := 6) (t := 147) (e := 53) (n := 20) (by kernel_rfl) (by kernel_rfl) (by kernel_rfl) (by kernel_rfl) (by kernel_rfl) (by kernel_rfl) h2⟩
section
variable {H : Type} {enc : TypeId × Value → H} {P : Program}
theorem post_of_below {f : Func} {s : ChangeSpec} {apart fresh handsOn again : Bool} {W W' : World} {args : Array Value} {v : Value} {ds gs : List (DataW H)} {before pa pv : List MemPlace}
    (hW : DataW.Whole enc P f.params.toList s.vars apart W args.toList ds gs before)
    (hres : ∀ (b : Nat) (sp : Nat → Bool) (hd : Bool), DataW.TrodAll enc P W' b sp hd f.resultTypes.toList (v.resultList f.resultTypes.size) (s.fn H (ds ++ gs)).results [])
    (hargs : ∀ sp : Nat → Bool, (∀ p ∈ before, sp p.block = true) → DataW.TrodAll enc P W' 0 sp true f.params.toList args.toList (s.fn H (ds ++ gs)).args pa)
    (hvars : ∀ sp : Nat → Bool, (∀ p ∈ before, sp p.block = true) → DataW.TrodVars enc P W' sp s.vars (s.fn H (ds ++ gs)).vars pv)
    (hps : before = pa ++ pv) (hb : Below W.heap.size W W')
    (hok : ∀ (j : Nat) (t : TypeId) (r : Value), f.resultTypes[j]? = some t → (v.resultList f.resultTypes.size)[j]? = some r → Value.okWide P W' .any 0 t r) :
    s.post enc P f apart fresh handsOn again W args v W' := by
  have hlt : ∀ p ∈ before, p.block < W.heap.size := fun p hp => hW.lt p hp
  have hold : ∀ p ∈ before, (fun b => decide (b < W.heap.size)) p.block = true := fun p hp => by simpa using hlt p hp
  refine ⟨ds, gs, before, [], pa, pv, hW, hres _ _ _, hargs _ hold, hvars _ hold, World.keptBut_mono (fun p hp => ⟨hp, ?_⟩) (hb.frame (· ∈ before)), fun _ => ?_⟩
  · rw [hps, List.mem_append] at hp
    exact Or.inr hp
  · obtain ⟨_, _, _, _, _, hz, hn⟩ := hW
    refine ⟨hok, _, _, ([] ++ pa) ++ pv, ⟨[] ++ pa, pv, trodAll_append (hargs _ (fun _ _ => rfl)) (hres _ _ _), hvars _ (fun _ _ => rfl), rfl, ?_, ?_⟩, ?_⟩
    · intro b off hp
      have hin : MemPlace.cell b off ∈ before := by rw [hps]; simpa using hp
      rw [hb.frozen (hlt _ hin)]
      exact hz b off hin
    · intro ha
      have := hn ha
      rw [hps] at this
      simpa using this
    · intro p hp _
      rw [hps]
      simpa using hp
end


theorem laidOut : laidOutB Tryz.prog = true := by kernel_rfl
/-- An argument reads behind the call as it did. -/
theorem arg_stays {H : Type} {enc : TypeId × Value → H} {t : TypeId} (hr : Tryz.prog.readableRec t = true) (hrow : t < Tryz.prog.types.size) {W W' : World} {sp : Nat → Bool} {v : Value} {d : DataW H} {ps : List MemPlace}
    (h : DataW.Trod enc Tryz.prog W 0 (fun _ => true) true t v d ps) (hb : Below W.heap.size W W') (hlt : ∀ x ∈ ps, x.block < W.heap.size) (hs : ∀ x ∈ ps, sp x.block = true) : DataW.Trod enc Tryz.prog W' 0 sp true t v d ps :=
  WideElems.Trod_stays laidOut hr hrow h (fun x hx => hb.same (hlt x hx)) hs
end Go.Proofs.YtedllapajgcfeaaGreatDoor
