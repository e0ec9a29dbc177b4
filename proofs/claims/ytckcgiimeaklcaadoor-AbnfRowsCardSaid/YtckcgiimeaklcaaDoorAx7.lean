/-
  The reader's literal: walked.
-/
import Derived.Test.YtckcgiimeaklcaaDoorAx6
namespace Go.Proofs.YtckcgiimeaklcaaDoor
set_option linter.unusedVariables false
set_option linter.unusedSimpArgs false
open Go.RowKit Go.Proofs.YtckcgiimeaklcaaDoorW.PrintWords
open Ab (T El R Rs sz rootI post els root hasR szs)
section
variable {w0 w : World} {base gg gr bm : Nat} {l : List UInt8} {ln : Int} {op : Nat} {es : List El} {ls : List Int} {rs : Rs} {vE vL : Value}
theorem cont_any (l : List UInt8) (w : World) : Calls Tryd.prog 69 #[.string ⟨l.toArray⟩, .func (.func 70) #[] #[]] w fun e w' => e = .returned (.bool (l.any Ab.odd)) ∧ Below w.heap.size w w' := by
  refine (Tryd.strings_ContainsFunc_runes 70 #[] (fun _ _ => rfl) oddR ⟨l.toArray⟩ w (fun W x hx hb => (litf_any x hx W).mono ?_)).mono ?_
  · rintro e w1 ⟨rfl, rfl⟩
    exact ⟨rfl, 0, rfl⟩
  · rintro e w1 ⟨rfl, hB⟩
    refine ⟨ret_bool ?_, hB⟩
    have := idx_odd l l.length 0 (by omega)
    simpa [Lib.idxFunc, ByteArray.size] using this
/-- What adds comes to, of either number. -/
theorem add_out {t : T} {x : El} (hx : post es.length t = [x]) (hz : sz t = 1) (hl : ls.length = es.length) {l0 : List UInt8} (h0 : l.length ≤ l0.length) (h : RSv w base gg gr bm l ln op es ls rs vE vL) (hk : Kp base gg bm w0 w) : Calls Tryd.prog 42 #[.pointer (some ⟨gr, 0, none⟩), .agg (elC x).toArray] w (OutN w0 base gg gr bm l0 ln op es ls rs (Ab.add t l es.length)) := by
  by_cases hn : es.length = 1500
  · refine (adds_long x hn h).mono ?_
    rintro e w1 ⟨rfl, k1⟩
    have e1 : Ab.add t l es.length = .no 3 := if_pos hn
    rw [e1]
    exact ⟨rfl, hk.trans k1⟩
  · refine (adds_any x hn hl h).mono ?_
    rintro e w1 ⟨rfl, r1, k1⟩
    have e1 : Ab.add t l es.length = .ok t l (es.length + 1) := if_neg hn
    rw [e1]
    refine ⟨?_, ?_, hk.trans k1, by rw [hz], h0⟩
    · have : rootI es.length t = es.length := by unfold rootI; rw [hz]; omega
      rw [this]
    · rw [hx, hz]; exact r1
end
end Go.Proofs.YtckcgiimeaklcaaDoor
