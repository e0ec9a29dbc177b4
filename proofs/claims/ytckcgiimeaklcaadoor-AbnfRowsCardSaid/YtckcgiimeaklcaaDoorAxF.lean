/-
  The reader's reads: its deferred closure; walked.
-/
import Derived.Test.YtckcgiimeaklcaaDoorAxE
import Derived.StillTailTactics
namespace Go.Proofs.YtckcgiimeaklcaaDoor
set_option linter.unusedVariables false
set_option linter.unusedSimpArgs false
open Go.RowKit Go.Proofs.YtckcgiimeaklcaaDoorW.PrintWords
open Ab (T El R Rs sz rootI post els root hasR szs)

theorem ab_nil' (w : World) : (binOp BinOp.eql 20 Value.nilIface Value.nilIface).run Tryd.prog w = .ok (.bool true) w := by kernel_rfl
set_option maxRecDepth 100000 in
set_option maxHeartbeats 1600000 in
theorem rd_idle (p : Addr) (w : World) : CallsD Tryd.prog 17 #[.pointer (some p)] .returning w fun e u' w' => e = .returned (.tuple #[]) ∧ u' = .returning ∧ w' = w := by
  have hn := ab_nil'
  refine callsD_of_wpS Tryd.func17 rfl fun c₀ cs hu => ?_
  apply wpS_seq
  apply wpS_region
  simp [wpOpsS, go_sem, recoverD, hu, Tryd.ntmps17, Exit.thenS]
  refine wpS_of_wp ?_
  change Code.wp _ _ _ { tmps := #[.pointer (some p), undef, undef, undef, .nilIface, undef, undef, undef, undef, undef, undef, undef], defers := [] } w
  go_wp2
  cases c₀
  simp_all [bodyPostS, results, Tryd.results17]
theorem rd_ta (v : Value) (w : World) : (Instr.typeAssert (.iface 58 v) 20 58 true).run Tryd.prog w = .ok (.tuple #[v, .bool true]) w := by kernel_rfl
theorem rd_ne (v : Value) (w : World) : (binOp BinOp.eql 20 (.iface 58 v) Value.nilIface).run Tryd.prog w = .ok (.bool false) w := by kernel_rfl
set_option maxRecDepth 100000 in
set_option maxHeartbeats 1600000 in
theorem rd_catch (a : Nat) (x : Int) (w : World) (x0 : Int) (h : w.heap[a]? = some (.cells #[.int .i64 x0] 24 (0, 0))) : CallsD Tryd.prog 17 #[.pointer (some ⟨a, 0, none⟩)] (.panicking (flt x)) w fun e u' w' => e = .returned (.tuple #[]) ∧ u' = .panicking [{ v := .iface 58 (.agg #[.int .i64 x]), recovered := true }] ∧ w'.heap[a]? = some (.cells #[.int .i64 x] 24 (0, 0)) ∧ Below a w w' := by
  refine callsD_of_wpS Tryd.func17 rfl fun c₀ cs hu => ?_
  apply wpS_seq
  apply wpS_region
  simp [wpOpsS, go_sem, recoverD, hu, Tryd.ntmps17, Exit.thenS]
  refine wpS_of_wp ?_
  change Code.wp _ _ _ { tmps := #[.pointer (some ⟨a, 0, none⟩), undef, undef, undef, .iface 58 (.agg #[.int .i64 x]), undef, undef, undef, undef, undef, undef, undef], defers := [] } w
  have hta := rd_ta
  have hne := rd_ne
  have a0 := blk_cell h 0
  simp at a0
  have fa0 := blk_frozen h 0
  have la := blk_lt h
  have HA := Lib.hid h
  clear h hu
  go_wp2_with fail
  refine ⟨rfl, _, rfl, .tuple #[], by simp [results, Tryd.results17], rfl, rfl, ?_, ?_⟩
  · exact blk_alloc (blk_put HA.out 0 _ rfl) _
  · exact ((Below.refl a w).setCell (p := ⟨a, 0, none⟩) (Nat.le_refl a) _).alloc (by simp; omega) _
section
variable {w0 w w' : World} {base gg gr bm a : Nat} {l l0 : List UInt8} {ln : Int} {op : Nat} {es : List El} {ls : List Int} {rs : Rs} {vE vL : Value}
theorem Kp.tail {w2 w3 : World} (h : Kp base gg bm w w2) (hb : Below w.heap.size w2 w3) (hB : base ≤ w.heap.size) : Kp base gg bm w w3 :=
  ⟨hb.os.trans h.os, hb.tape.trans h.tape, hb.output.trans h.output, Nat.le_trans h.size hb.size, fun k h1 h2 h3 => (hb.block k (by omega)).trans (h.block k h1 h2 h3), fun k v h2 h3 h4 => (hb.block k (blk_lt h4)).trans (h.er k v h2 h3 h4)⟩
theorem RSv.far (h : RSv w base gg gr bm l ln op es ls rs vE vL) {cs : Array Value} (ha : w.heap[a]? = some (.cells cs 24 (0, 0))) (h0 : a ≠ 0) (v : Value) : RSv (w.setCell ⟨a, 0, none⟩ v) base gg gr bm l ln op es ls rs vE vL := by
  have n1 := blk_ne h.blk ha (by decide)
  have n2 := blk_ne h.gblk ha (by decide)
  have hg : w.grownBy (w.setCell ⟨a, 0, none⟩ v) (some a) := ⟨rfl, rfl, rfl, by simp, fun k hk hn => Below.heap_setCell w ⟨a, 0, none⟩ v k (fun e => hn (by rw [e]))⟩
  refine ⟨blk_far h.blk (p := ⟨a, 0, none⟩) n1 v, blk_far h.gblk (p := ⟨a, 0, none⟩) n2 v, h.map.grown hg ?_, own_setCell h.rE (own_ne h.rE ha (by decide)) _, own_setCell h.rL (own_ne h.rL ha (by decide)) _, h.bg, h.bmlt, h.len, h.le, h.ll, h.op, ?_, h.p0⟩
  · intro e
    injection e with e
    exact h.map.ne ha e
  · obtain ⟨m, hm⟩ := h.mx
    refine ⟨m, ?_⟩
    rw [← hm]
    unfold World.cell?
    rw [show (w.setCell ⟨a, 0, none⟩ v).heap[0]? = w.heap[0]? from Below.heap_setCell w ⟨a, 0, none⟩ v 0 (fun e => h0 e.symm)]
def adE (es : List El) : Option (List UInt8 × T) → List El
  | none => es
  | some r => es ++ post es.length r.2
def adL (ls : List Int) (ln : Int) : Option (List UInt8 × T) → List Int
  | none => ls
  | some r => ls ++ List.replicate (sz r.2) ln
/-- What reading a line comes to. -/
def OutRd (w : World) (base gg gr bm : Nat) (ln : Int) (es : List El) (ls : List Int) (rs : Rs) (res : R (Option (List UInt8 × T))) (e : Ending) (w' : World) : Prop :=
  match res with
  | .ok v _ _ => e = .returned (.int .i64 0) ∧ RS w' base gg gr bm [] ln 0 (adE es v) (adL ls ln v) (Ab.addR rs v) ∧ Kp base gg bm w w'
  | .no x => e = .returned (.int .i64 x) ∧ Kp base gg bm w w'
set_option maxRecDepth 100000 in
set_option maxHeartbeats 3200000 in
theorem reads_any {f0 : Nat} (hf0 : 1500 < f0) (hl : ls.length = es.length) (hs : es.length = szs rs) (hr : rs.length ≤ 100) (h : RSv w base gg gr bm l ln 0 es ls rs vE vL) :
    Calls Tryd.prog 12 #[.pointer (some ⟨gr, 0, none⟩)] w (OutRd w base gg gr bm ln es ls rs (Ab.rule f0 rs l)) := by
  have hmf : ∀ (fn : Fn) (first cap : Array Value) (w : World), (Instr.makeFunc fn first cap).run Tryd.prog w = .ok (.func fn first cap) w := fun _ _ _ _ => rfl
  have HF := Lib.hid hf0
  have HN := Lib.hid (And.intro hl (And.intro hs hr))
  have hB0 : Below w.heap.size w (w.alloc (.cells #[.int .i64 0] 24)) := (Below.refl _ _).alloc (Nat.le_refl _) _
  have HX := Lib.hid (h.below hB0)
  have HK := Lib.hid (h.kp hB0)
  have HA := Lib.hid (blk_new w (.cells #[.int .i64 0] 24))
  have HLT := Lib.hid h.lt
  have HG : Hid (w.heap.size ≠ gg ∧ w.heap.size ≠ bm ∧ w.heap.size ≠ 0) := Lib.hid ⟨by have := blk_lt h.gblk; omega, by have := h.map.lt; omega, by have := h.p0.1; have := h.lt; omega⟩
  clear h hf0 hl hs hr hB0
  go_enter_defers Tryd.func12, Tryd.ntmps12
  go_wp2_with fail
  refine (rule_any HF.out HN.out.1 HN.out.2.1 HN.out.2.2 HX.out).mono ?_
  rintro e w2 hO
  have hAt : ∀ {w2 : World}, Kp base gg bm (w.alloc (.cells #[.int .i64 0] 24)) w2 → w2.heap[w.heap.size]? = some (.cells #[.int .i64 0] 24 (0, 0)) := fun k => k.er _ _ HG.out.1 HG.out.2.1 HA.out
  cases hc : Ab.rule f0 rs l with
  | no x =>
    rw [hc] at hO
    obtain ⟨rfl, k2⟩ := hO
    have h3 := hAt k2
    have HK2 := Lib.hid (HK.out.trans k2)
    clear k2 hAt
    go_wp2_with fail
    refine leaves_cons (f := 17) (args := #[.pointer (some ⟨w.heap.size, 0, none⟩)]) (by simp) (by simp [go_sem]) ?_
    refine (rd_catch w.heap.size x _ 0 h3).mono ?_
    rintro e u' w3 ⟨rfl, rfl, r1, hB3⟩
    have hset : settle (.panicking [{ v := .iface 58 (.agg #[.int .i64 x]), recovered := true }]) = .returning := by simp [settle]
    show Leaves _ _ _ _ [] (settle _) _
    rw [hset]
    have c0 := blk_cell r1 0
    simp at c0
    exact ⟨.int .i64 x, by simp [results, Tryd.results12, go_sem, c0], rfl, HK2.out.tail hB3 HLT.out⟩
  | ok v r1' p1 =>
    rw [hc] at hO
    have hO2 : e = .returned (.tuple #[]) ∧ RS w2 base gg gr bm [] ln 0 (adE es v) (adL ls ln v) (Ab.addR rs v) ∧ Kp base gg bm (w.alloc (.cells #[.int .i64 0] 24)) w2 := by
      cases v with
      | none => exact hO
      | some r => exact hO
    obtain ⟨rfl, ⟨vE2, vL2, hR2⟩, k2⟩ := hO2
    have h3 := hAt k2
    have HK2 := Lib.hid (HK.out.trans k2)
    have HR2 := Lib.hid hR2
    have c0 := blk_cell h3 0
    simp at c0
    have fc0 := blk_frozen h3 0
    have H3 := Lib.hid h3
    have HSZ := Lib.hid k2.size
    clear hO hAt k2 hR2 h3
    go_wp2_with fail
    refine leaves_cons (f := 17) (args := #[.pointer (some ⟨w.heap.size, 0, none⟩)]) (by simp) (by simp [go_sem]) ?_
    refine (rd_idle _ _).mono ?_
    rintro e u' w5 ⟨rfl, rfl, rfl⟩
    have r1 := blk_put H3.out 0 (.int .i64 0) rfl
    have HZ := Lib.hid (HR2.out.far H3.out HG.out.2.2 (.int .i64 0))
    have HZK : Kp base gg bm w (w2.setCell ⟨w.heap.size, 0, none⟩ (.int .i64 0)) := HK2.out.tail ((Below.refl _ _).setCell (p := ⟨w.heap.size, 0, none⟩) (Nat.le_refl _) _) HLT.out
    have b0 := blk_cell r1 0
    simp at b0
    show Leaves _ _ _ _ [] (settle .returning) (w2.setCell ⟨w.heap.size, 0, none⟩ (.int .i64 0))
    clear c0 fc0
    refine ⟨.int .i64 0, by simp [results, Tryd.results12, go_sem, b0], ?_⟩
    show OutRd _ _ _ _ _ _ _ _ _ (Ab.rule f0 rs l) _ _
    rw [hc]
    exact ⟨rfl, ⟨_, _, HZ.out⟩, HZK⟩
end
end Go.Proofs.YtckcgiimeaklcaaDoor
