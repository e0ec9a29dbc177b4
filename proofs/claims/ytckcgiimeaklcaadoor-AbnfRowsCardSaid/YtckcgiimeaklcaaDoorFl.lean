/-
  The table's fills: walked.
-/
import Derived.Test.YtckcgiimeaklcaaDoorOs
namespace Go.Proofs.YtckcgiimeaklcaaDoor
set_option linter.unusedVariables false
set_option linter.unusedSimpArgs false
open Go.RowKit Go.Proofs.YtckcgiimeaklcaaDoorW.PrintWords
open Ab (T El R Rs sz rootI post els root hasR szs Tb TT)
/-- The table is full. -/
def Full (es : List El) (rs : Rs) (wd : List UInt8) (tb : Tb) : Prop := (∀ k i, (tb k i).Ok) ∧ ∀ k i j, i ≤ wd.length → (TT tb k i j ↔ Ab.E es (Ab.rt rs) wd k i j)
def one_of : Value → Nat
  | .bool true => 1
  | _ => 0
section
variable {w0 W W' : World} {gt gg bm : Nat} {es : List El} {rs : Rs} {A : Option Addr} {c : Nat} {vL : Value} {wd : List UInt8} {tb : Tb} {ge cap : Nat} {gs : Nat → Nat}
set_option maxRecDepth 100000 in
set_option maxHeartbeats 6400000 in
theorem fills_any (h : TbAt w0 W gt gg bm es rs A c vL wd (fun _ _ => W2.zero) ge cap gs) (hS : Ab.Sound rs) (hes : es = els 0 rs) :
    Calls Tryd.prog 13 #[.pointer (some ⟨gt, 0, none⟩)] W fun e w' => e = .returned (.tuple #[]) ∧ ∃ tb, TbAt w0 w' gt gg bm es rs A c vL wd tb ge cap gs ∧ Full es rs wd tb := by
  have H := Lib.hid h
  have HSD := Lib.hid (And.intro hS hes)
  have hwl := h.wl
  have hnl := h.nl
  have wl0 : IntKind.i64.wrap (wd.length : Int) = (wd.length : Int) := IntWalk.i64_in _ (by omega)
  obtain ⟨t0, t1, t2⟩ := h.cells
  clear h hS hes
  go_enter Tryd.func13, Tryd.ntmps13
  go_wp2_with fail
  go_loopw [2] (fun v2 wr => ∃ (m : Nat) (tb : Tb), v2 = .int .i64 ((m : Int) - 1) ∧ m ≤ wd.length + 1 ∧ Hid (TbAt w0 wr gt gg bm es rs A c vL wd tb ge cap gs ∧ (∀ i, m = i + 1 → Ab.Good es (Ab.rt rs) wd tb i) ∧ (m = 0 → Full es rs wd tb))) (fun v2 _ => (RowKit.intOf v2 + 1).toNat)
  case atStart =>
    refine ⟨wd.length + 1, _, by simp, by omega, Lib.hid ⟨H.out, ?_, fun e => absurd e (by omega)⟩⟩
    intro i e
    obtain rfl : i = wd.length := by omega
    exact Ab.Good.start es (Ab.rt rs) wd
  case round =>
    clear t0 t1 t2
    obtain ⟨m, tb, rfl, hm, HM⟩ := hrel
    rcases m with _ | i
    · have t9 : decide ((0 : Int) ≤ ((0 : Nat) : Int) - 1) = false := by decide
      go_wp2_with fail
      go_end0
      exact ⟨rfl, tb, HM.out.1, HM.out.2.2 (by first | rfl | trivial)⟩
    · have e9 : ((i + 1 : Nat) : Int) - 1 = (i : Int) := by omega
      rw [e9]
      have t9 : decide ((0 : Int) ≤ (i : Int)) = true := decide_eq_true (by omega)
      have HI : Hid (i ≤ wd.length) := Lib.hid (by omega)
      have HG : Hid (TbAt w0 wr gt gg bm es rs A c vL wd tb ge cap gs ∧ Ab.Good es (Ab.rt rs) wd tb i) := Lib.hid ⟨HM.out.1, HM.out.2.1 i rfl⟩
      clear HM
      go_wp2_with fail
      go_loopw [3] (fun v3 wr => ∃ (b : Bool) (tb : Tb), v3 = .bool b ∧ Hid (TbAt w0 wr gt gg bm es rs A c vL wd tb ge cap gs ∧ Ab.Good es (Ab.rt rs) wd tb i ∧ (b = false → ∀ k j, Ab.One es (Ab.rt rs) wd (TT tb) k i j → TT tb k i j))) (fun v3 wr => 2 * Ab.miss (tbW wr gs) i es.length + one_of v3)
      case atStart => exact ⟨true, tb, rfl, Lib.hid ⟨HG.out.1, HG.out.2, fun e => Bool.noConfusion e⟩⟩
      case round =>
        clear HG
        obtain ⟨b, tb0, rfl, HG⟩ := hrel
        obtain ⟨WM, hWM⟩ : ∃ z, z = wr := ⟨_, rfl⟩
        subst hWM
        cases b
        · have wi1 : IntKind.i64.wrap ((i : Int) - 1) = (i : Int) - 1 := IntWalk.i64_in _ (by omega)
          go_wp2_with fail
          go_roundw
          case rel =>
            refine ⟨i, tb0, rfl, by omega, Lib.hid ⟨HG.out.1, ?_, ?_⟩⟩
            · rintro i' rfl
              exact HG.out.2.1.next es (Ab.rt rs) wd (HG.out.2.2 rfl)
            · rintro rfl
              exact ⟨HG.out.2.1.ok, fun k i j hi => HG.out.2.1.final es (Ab.rt rs) wd (HG.out.2.2 rfl) hi⟩
          case measure => simp [RowKit.intOf] <;> omega
        · obtain ⟨t0, t1, t2⟩ := HG.out.1.cells
          obtain ⟨g0, g1, g2⟩ := (HG.out.1.gram.below HG.out.1.bel).cells
          have wi0 : IntKind.i64.wrap (i : Int) = (i : Int) := IntWalk.i64_in _ (by omega)
          go_wp2_with fail
          go_loopw [25, 3] (fun v v3 wr => ∃ (k : Nat) (b : Bool) (tb : Tb), v = .int .i64 k ∧ v3 = .bool b ∧ k ≤ es.length ∧ Hid (TbAt w0 wr gt gg bm es rs A c vL wd tb ge cap gs ∧ Ab.Good es (Ab.rt rs) wd tb i ∧ (b = false → tb = tb0 ∧ ∀ k', k' < k → ∀ j, Ab.One es (Ab.rt rs) wd (TT tb) k' i j → TT tb k' i j) ∧ (b = true → Ab.miss tb i es.length < Ab.miss tb0 i es.length))) (fun v _ _ => es.length - (RowKit.intOf v).toNat)
          case atStart => exact ⟨0, false, tb0, rfl, rfl, by omega, Lib.hid ⟨HG.out.1, HG.out.2.1, fun _ => ⟨rfl, fun k' h => absurd h (by omega)⟩, fun e => Bool.noConfusion e⟩⟩
          case round =>
            clear t0 t1 t2 g0 g1 g2
            obtain ⟨k, b, tb, rfl, rfl, hk, HR⟩ := hrel
            by_cases hlt : k < es.length
            · have t1 : decide ((k : Int) < (es.length : Int)) = true := decide_eq_true (by omega)
              have k2 : (k : Int) < es.length := by omega
              have k3 : (0 : Int) ≤ (k : Int) := by omega
              have wk0 : IntKind.i64.wrap (k : Int) = (k : Int) := IntWalk.i64_in _ (by omega)
              have wk1 : IntKind.i64.wrap ((k : Int) + 1) = (k : Int) + 1 := IntWalk.i64_in _ (by omega)
              obtain ⟨a, ha, hab, hN⟩ := HR.out.1.gram.els k hlt
              subst ha
              obtain ⟨c0, c1, c2, c3, c4, c5⟩ := hN.below HR.out.1.bel (by rw [ab_add_block]; exact hab)
              have hx : es[k]? = some es[k] := List.getElem?_eq_getElem hlt
              generalize es[k] = x at c0 c1 c2 c3 c4 c5 hx hN
              have HBA : Hid (Below wr.heap.size wr (wr.alloc (.cells (elC x).toArray 45))) := Lib.hid ((Below.refl _ _).alloc (Nat.le_refl _) _)
              have HTA := Lib.hid (HR.out.1.below HBA.out)
              have HK := Lib.hid (And.intro hx hlt)
              clear hN hab hx
              go_wp2_with fail
              refine (one_any HTA.out HSD.out.1 HSD.out.2 HR.out.2.1.ok HR.out.2.1.fwd x k i HK.out.1 HK.out.2 HI.out).mono ?_
              rintro e w3 ⟨p, rfl, hpo, hph, hB3⟩
              have HP := Lib.hid (And.intro hpo hph)
              have HTY := Lib.hid ((HTA.out.below hB3).below ((Below.refl _ w3).alloc (Nat.le_refl _) (.cells #[.int .u64 p.a, .int .u64 p.b] 53)))
              have HPY := Lib.hid (blk_new w3 (.cells #[.int .u64 p.a, .int .u64 p.b] 53))
              clear hpo hph hB3 c0 c1 c2 c3 c4 c5 HBA HTA
              have HBY : Hid (Below w0.heap.size w0 (w3.alloc (.cells #[.int .u64 p.a, .int .u64 p.b] 53))) := Lib.hid HTY.out.bel
              obtain ⟨nb, hnb⟩ : ∃ z, z = w3.heap.size := ⟨_, rfl⟩
              rw [← hnb] at HPY
              go_upto_region 10 with (fail)
              rw [← hnb]
              generalize w3.alloc (.cells #[.int .u64 p.a, .int .u64 p.b] 53) = Y at HTY HPY HBY ⊢
              clear hnb
              have hPY : PAt Y nb p := HPY.out
              obtain ⟨p0, p1⟩ := hPY.cells
              obtain ⟨t0, t1, t2⟩ := HTY.out.cells
              have te := HTY.out.ecell k hlt
              obtain ⟨r0, r1⟩ := HTY.out.rcell k hlt i HI.out
              have k4 : (i : Int) < (wd.length : Int) + 1 := by have := HI.out; omega
              have k5 : (0 : Int) ≤ (i : Int) := by omega
              have heq := fun z => eq_raw p (tb k i) z
              by_cases hsame : p = tb k i
              · have hd : decide (p = tb k i) = true := decide_eq_true hsame
                rw [hd] at heq
                have HSM := Lib.hid hsame
                clear hsame hd hPY
                go_quiet (fail)
                go_wp2_with fail
                go_roundw
                case rel =>
                  have HTZ : TbAt w0 (Y.drewN nq) gt gg bm es rs (some a) c vL wd tb ge cap gs := HTY.out.below (pw_below_drewN (Below.refl _ _) nq)
                  refine ⟨k + 1, b, tb, by go_num, rfl, by omega, Lib.hid ⟨HTZ, HR.out.2.1, fun e => ⟨(HR.out.2.2.1 e).1, fun k' hk' j o => ?_⟩, HR.out.2.2.2⟩⟩
                  by_cases ek : k' = k
                  · subst ek
                    have := (HP.out.2 j).2 o
                    rw [HSM.out] at this
                    exact this
                  · exact (HR.out.2.2.1 e).2 k' (by omega) j o
                case measure => simp [RowKit.intOf] <;> omega
              · have hd : decide (p = tb k i) = false := decide_eq_false hsame
                rw [hd] at heq
                have HSM := Lib.hid hsame
                obtain ⟨rc, hrc, _⟩ := HTY.out.row k hlt
                have f0 := blk_frozen hrc (i * 2)
                have f1 := blk_frozen hrc (i * 2 + 1)
                clear hsame hd hPY hrc
                go_quiet (fail)
                go_upto_region 11 with (fail)
                have HTZ : Hid (TbAt w0 (((Y.drewN nq).setCell ⟨gs k, i * 2, none⟩ (.int .u64 p.a)).setCell ⟨gs k, i * 2 + 1, none⟩ (.int .u64 p.b)) gt gg bm es rs (some a) c vL wd (Ab.upd tb k i p) ge cap gs) := Lib.hid ((HTY.out.below (pw_below_drewN (Below.refl _ _) nq)).upd k hlt i HI.out p)
                go_region
                all_goals
                  go_wp2_with fail
                  go_roundw
                  case rel =>
                    refine ⟨k + 1, true, Ab.upd tb k i p, by go_num, rfl, by omega, Lib.hid ⟨HTZ.out.below ((Below.refl _ _).drew), HR.out.2.1.step es (Ab.rt rs) wd HI.out HP.out.1 HP.out.2, fun e => Bool.noConfusion e, fun _ => ?_⟩⟩
                    have h1 := Ab.miss_lt (tb := tb) (i := i) (W2.cnt_lt HP.out.1 (HR.out.2.1.ok k i) (fun j hj => HR.out.2.1.sup es (Ab.rt rs) wd HP.out.2 hj) HSM.out) es.length HK.out.2
                    cases b
                    · rw [(HR.out.2.2.1 rfl).1] at h1 ⊢
                      exact h1
                    · have := HR.out.2.2.2 rfl
                      omega
                  case measure => simp [RowKit.intOf] <;> omega
            · obtain rfl : k = es.length := by omega
              have t1 : decide ((es.length : Int) < (es.length : Int)) = false := decide_eq_false (by omega)
              go_wp2_with fail
              go_roundw
              case rel =>
                refine ⟨b, tb, rfl, Lib.hid ⟨HR.out.1, HR.out.2.1, fun e k j o => ?_⟩⟩
                have o2 := o
                obtain ⟨x, hx, _⟩ := o
                exact (HR.out.2.2.1 e).2 k (List.getElem?_eq_some_iff.1 hx).1 j o2
              case measure =>
                rw [HR.out.1.miss i HI.out, HG.out.1.miss i HI.out]
                cases b
                · rw [(HR.out.2.2.1 rfl).1]
                  simp [one_of]
                · have := HR.out.2.2.2 rfl
                  simp [one_of]
                  omega
end
end Go.Proofs.YtckcgiimeaklcaaDoor
