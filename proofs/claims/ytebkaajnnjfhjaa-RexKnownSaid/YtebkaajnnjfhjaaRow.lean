/-
  Small words for the rows: a result behind which old memory is as it was; a set of bytes as an argument.
-/
import Derived.Test.YtebkaajnnjfhjaaRows
import Derived.Test.YtebkaajnnjfhjaaSet
import Derived.WalkKit
import Derived.ProofKit
import Derived.OpenShut
import Derived.ShutString
namespace Go.Proofs.Ytebkaajnnjfhjaa
open Go.ChangeShapes Go.WideShapes Go.ChangeAt Go.RowKit

theorem own : ownKnob Try.prog.godebug = none := by kernel_rfl

section
variable {H : Type} {enc : TypeId × Value → H} {P : Program}
theorem post_of_below {f : Func} {s : ChangeSpec} {apart fresh handsOn again : Bool} {W W' : World} {args : Array Value} {v : Value} {ds gs : List (DataW H)} {before pa pv : List MemPlace}
    (hW : DataW.Whole enc P f.params.toList s.vars apart W args.toList ds gs before)
    (hres : ∀ (b : Nat) (sp : Nat → Bool) (hd : Bool), DataW.TrodAll enc P W' b sp hd f.resultTypes.toList (v.resultList f.resultTypes.size) (s.fn H (ds ++ gs)).results [])
    (hargs : ∀ sp : Nat → Bool, (∀ p ∈ before, sp p.block = true) → DataW.TrodAll enc P W' 0 sp true f.params.toList args.toList (s.fn H (ds ++ gs)).args pa)
    (hvars : ∀ sp : Nat → Bool, (∀ p ∈ before, sp p.block = true) → DataW.TrodVars enc P W' sp s.vars (s.fn H (ds ++ gs)).vars pv)
    (hps : before = pa ++ pv) (hb : Below W.heap.size W W')
    (hok : ∀ (j : Nat) (t : TypeId) (r : Value), f.resultTypes[j]? = some t → (v.resultList f.resultTypes.size)[j]? = some r → Value.okWide P W' .any 0 t r) :
    s.post enc P f apart fresh handsOn again W args v W' := by
  have hlt : ∀ p ∈ before, p.block < W.heap.size := fun p hp => hW.lt p hp
  have hold : ∀ p ∈ before, (fun b => decide (b < W.heap.size)) p.block = true := fun p hp => by simpa using hlt p hp
  refine ⟨ds, gs, before, [], pa, pv, hW, hres _ _ _, hargs _ hold, hvars _ hold, World.keptBut_mono (fun p hp => ⟨hp, ?_⟩) (hb.frame (· ∈ before)), fun _ => ?_⟩
  · rw [hps, List.mem_append] at hp
    exact Or.inr hp
  · obtain ⟨_, _, _, _, _, hz, hn⟩ := hW
    refine ⟨hok, _, _, ([] ++ pa) ++ pv, ⟨[] ++ pa, pv, trodAll_append (hargs _ (fun _ _ => rfl)) (hres _ _ _), hvars _ (fun _ _ => rfl), rfl, ?_, ?_⟩, ?_⟩
    · intro b off hp
      have hin : MemPlace.cell b off ∈ before := by rw [hps]; simpa using hp
      rw [hb.frozen (hlt _ hin)]
      exact hz b off hin
    · intro ha
      have := hn ha
      rw [hps] at this
      simpa using this
    · intro p hp _
      rw [hps]
      simpa using hp
end

section
variable {H : Type} {enc : TypeId × Value → H} {W : World}
theorem list4 {α : Type} (l : List α) (h : (⟨l⟩ : Array α).size = 4) : ∃ a b c d, l = [a, b, c, d] := by
  match l, h with
  | [a, b, c, d], _ => exact ⟨a, b, c, d, rfl⟩
theorem cellsSet : Try.prog.cellsOf 34 = 4 := by kernel_rfl
theorem cellsU64 : Try.prog.cellsOf 32 = 1 := by kernel_rfl
theorem u64_of_wf {x : Int} (h : (Lit.int .u64 x).wf = true) : ∃ n : Nat, x = n ∧ n < 18446744073709551616 := by
  simp [Lit.wf, IntKind.min, IntKind.max, IntKind.signed, IntKind.bits] at h
  exact ⟨x.toNat, by omega, by omega⟩
theorem wf_of_u64 {n : Nat} (h : n < 18446744073709551616) : (Lit.int .u64 (n : Int)).wf = true := by
  simp [Lit.wf, IntKind.min, IntKind.max, IntKind.signed, IntKind.bits]
  omega
theorem open_set {base b1 : Nat} {sp : Nat → Bool} {hd : Bool} {v : Value} {d : DataW H} {p : List MemPlace} (hv : Value.okWide Try.prog W .any base 34 v) (h : DataW.Trod enc Try.prog W b1 sp hd 34 v d p) :
    ∃ s : W4, s.Ok ∧ v = .agg #[.int .u64 s.a, .int .u64 s.b, .int .u64 s.c, .int .u64 s.d] ∧ d = .agg [.lit (.int .u64 s.a), .lit (.int .u64 s.b), .lit (.int .u64 s.c), .lit (.int .u64 s.d)] ∧ p = [] := by
  obtain ⟨cs, rfl, hsz, _⟩ : ∃ cs, v = .agg cs ∧ cs.size = Try.prog.cellsOf 34 ∧ Row.okWide Try.prog W .any base 34 cs := by
    simpa [Value.okWide, Try.underlying34] using hv
  rw [cellsSet] at hsz
  obtain ⟨l⟩ := cs
  obtain ⟨c0, c1, c2, c3, rfl⟩ := list4 l hsz
  obtain ⟨fuel, hf⟩ := h
  obtain ⟨y0, y1, y2, y3, m, hx, hy0, hy1, hy2, hy3⟩ := trod_array4 Try.underlying34 cellsU64 hf
  obtain ⟨x0, e0, rfl, w0⟩ := DataW.trod_int Try.underlying32 hy0
  obtain ⟨x1, e1, rfl, w1⟩ := DataW.trod_int Try.underlying32 hy1
  obtain ⟨x2, e2, rfl, w2⟩ := DataW.trod_int Try.underlying32 hy2
  obtain ⟨x3, e3, rfl, w3⟩ := DataW.trod_int Try.underlying32 hy3
  obtain ⟨n0, rfl, g0⟩ := u64_of_wf w0
  obtain ⟨n1, rfl, g1⟩ := u64_of_wf w1
  obtain ⟨n2, rfl, g2⟩ := u64_of_wf w2
  obtain ⟨n3, rfl, g3⟩ := u64_of_wf w3
  simp at e0 e1 e2 e3
  subst e0 e1 e2 e3
  simp only [Prod.mk.injEq] at hx
  obtain ⟨rfl, rfl⟩ := hx
  exact ⟨⟨n0, n1, n2, n3⟩, ⟨g0, g1, g2, g3⟩, rfl, rfl, rfl⟩
theorem shut_set {base : Nat} {sp : Nat → Bool} {hd : Bool} (s : W4) (hs : s.Ok) : DataW.Trod enc Try.prog W base sp hd 34 (.agg #[.int .u64 s.a, .int .u64 s.b, .int .u64 s.c, .int .u64 s.d]) (DataW.agg [.lit (.int .u64 s.a), .lit (.int .u64 s.b), .lit (.int .u64 s.c), .lit (.int .u64 s.d)]) [] := by
  have w0 := wf_of_u64 hs.1
  have w1 := wf_of_u64 hs.2.1
  have w2 := wf_of_u64 hs.2.2.1
  have w3 := wf_of_u64 hs.2.2.2
  exact ⟨2, by simp [DataW.trod, Value.cells, Try.underlying34, Try.underlying32, cellsSet, cellsU64, w0, w1, w2, w3, show List.range 4 = [0, 1, 2, 3] from rfl]⟩
end
end Go.Proofs.Ytebkaajnnjfhjaa
