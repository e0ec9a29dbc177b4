/-
  The reader's alternation and group: walked.
-/
import Derived.Test.YtckcgiimeaklcaaDoorAxC
namespace Go.Proofs.YtckcgiimeaklcaaDoor
set_option linter.unusedVariables false
set_option linter.unusedSimpArgs false
open Go.RowKit Go.Proofs.YtckcgiimeaklcaaDoorW.PrintWords
open Ab (T El R Rs sz rootI post els root hasR szs)
namespace Ab
theorem altl_stop {f0 : Nat} {g : UInt8 → B → Nat → R T} {f n : Nat} {acc : T} {l : B} (h : nx 47 l = false) : altl f0 g (f + 1) acc l n = .ok acc l n := by rw [altl, h]; rfl
theorem altl_go {f0 : Nat} {g : UInt8 → B → Nat → R T} {f n : Nat} {acc : T} {l : B} (h : nx 47 l = true) : altl f0 g (f + 1) acc l n = (cat f0 g (l.drop 1) n).bnd fun t l1 n1 => (add (.eith acc t) l1 n1).bnd fun b l2 n2 => altl f0 g f b l2 n2 := by rw [altl, h]; rfl
end Ab
section
variable {w0 w : World} {base gg gr bm : Nat} {l l0 : List UInt8} {ln : Int} {op : Nat} {es : List El} {ls : List Int} {rs : Rs} {vE vL : Value}
theorem must_no {c : UInt8} (hn : Ab.nx c l = false) (h : RSv w base gg gr bm l ln op es ls rs vE vL) : Calls Tryd.prog 26 #[.pointer (some ⟨gr, 0, none⟩), .string ⟨[c].toArray⟩] w fun e w' => e = .panicked (flt 8) ∧ Kp base gg bm w w' := by
  have := must_any [c] h
  rw [Ab.pre1, hn] at this
  exact this
theorem must_yes {c : UInt8} (hn : Ab.nx c l = true) (h : RSv w base gg gr bm l ln op es ls rs vE vL) : Calls Tryd.prog 26 #[.pointer (some ⟨gr, 0, none⟩), .string ⟨[c].toArray⟩] w fun e w' => (e = .returned (.tuple #[]) ∧ RSv w' base gg gr bm (l.drop 1) ln op es ls rs vE vL) ∧ Kp base gg bm w w' := by
  have := must_any [c] h
  unfold Lib.trimPrefix at this
  rw [Ab.pre1, hn] at this
  exact this
set_option maxRecDepth 100000 in
set_option maxHeartbeats 6400000 in
theorem alternation_any {f0 d : Nat} (hf0 : 1500 < f0) (HG : GroupSaid f0 d) (hop : op + d = 16) (hl : ls.length = es.length) (h : RSv w base gg gr bm l ln op es ls rs vE vL) :
    Calls Tryd.prog 27 #[.pointer (some ⟨gr, 0, none⟩)] w (OutN w base gg gr bm l ln op es ls rs (Ab.alt f0 (Ab.grp f0 d) l es.length)) := by
  have HX := Lib.hid h
  have HGS := Lib.hid HG
  have HN := Lib.hid (And.intro hop hl)
  have HF := Lib.hid hf0
  have hT : Ab.alt f0 (Ab.grp f0 d) l es.length = (Ab.cat f0 (Ab.grp f0 d) l es.length).bnd fun t l1 n1 => Ab.altl f0 (Ab.grp f0 d) f0 t l1 n1 := rfl
  generalize Ab.alt f0 (Ab.grp f0 d) l es.length = res at hT ⊢
  have HT := Lib.hid hT.symm
  clear h HG hop hl hT hf0
  go_enter Tryd.func27, Tryd.ntmps27
  go_wp2_with fail
  refine (concatenation_any HF.out HGS.out HN.out.1 HN.out.2 HX.out).mono ?_
  rintro e w2 hO
  cases ha : Ab.cat f0 (Ab.grp f0 d) l es.length with
  | no x =>
    rw [ha] at hO HT
    obtain ⟨rfl, k3⟩ := hO
    refine ⟨rfl, ?_⟩
    rw [← HT.out]
    exact OutN.fail k3
  | ok t l1 n1 =>
    rw [ha] at hO HT
    obtain ⟨rfl, ⟨vE2, vL2, hR2⟩, k2, hn2, hl2⟩ := hO
    replace HX := Lib.hid hR2
    have HK := Lib.hid k2
    have HL := Lib.hid hl2
    replace HT : Hid (Ab.altl f0 (Ab.grp f0 d) f0 t l1 (es.length + sz t) = res) := Lib.hid (by rw [← hn2]; exact HT.out)
    clear hR2 k2 hn2 hl2 ha
    go_wp2_with fail
    go_loopw [3] (fun v3 wr => ∃ (acc : T) (l2 : List UInt8) (f : Nat) (vE' vL' : Value), v3 = .int .i64 (rootI es.length acc) ∧ 1500 < f + (es.length + sz acc) ∧ l2.length ≤ l.length ∧ Hid (Ab.altl f0 (Ab.grp f0 d) f acc l2 (es.length + sz acc) = res) ∧ Hid (RSv wr base gg gr bm l2 ln op (es ++ post es.length acc) (ls ++ List.replicate (sz acc) ln) rs vE' vL') ∧ Hid (Kp base gg bm w wr)) (fun v3 _ => 1500 - (RowKit.intOf v3).toNat)
    case atStart => exact ⟨t, l1, f0, vE2, vL2, rfl, by have := HF.out; omega, HL.out, HT, HX, HK⟩
    case round =>
      clear HT HX HK HL
      obtain ⟨acc, l2, f, vE2, vL2, rfl, hf, hl2, HC, HR, HK2⟩ := hrel
      rcases f with _ | f
      · have := HR.out.le; rw [List.length_append, Ab.post_len] at this; omega
      obtain ⟨c0, c1, c2, c3⟩ := HR.out.cells
      have HRL := Lib.hid (show es.length + sz acc ≤ 1500 by have := HR.out.le; rw [List.length_append, Ab.post_len] at this; exact this)
      clear c0 c1 c2 c3
      cases hst : Ab.nx 47 l2
      · have hres : Hid (res = .ok acc l2 (es.length + sz acc)) := Lib.hid (HC.out.symm.trans (Ab.altl_stop hst))
        have HST := Lib.hid hst
        clear HC hst
        go_wp2_with fail
        refine (is_no (c := 47) HST.out HR.out).mono ?_
        rintro e w3 ⟨rfl, hR3, k3⟩
        have HZ : Hid (RS w3 base gg gr bm l2 ln op (es ++ post es.length acc) (ls ++ List.replicate (sz acc) ln) rs ∧ Kp base gg bm w w3) := Lib.hid ⟨⟨_, _, hR3⟩, HK2.out.trans k3⟩
        clear hR3 k3
        go_wp2_with fail
        rw [hres.out]
        go_ret
        exact ⟨rfl, HZ.out.1, HZ.out.2, rfl, hl2⟩
      · replace HC := Lib.hid ((Ab.altl_go hst).symm.trans HC.out)
        have HST := Lib.hid hst
        clear hst
        go_wp2_with fail
        refine (is_yes (c := 47) HST.out HR.out).mono ?_
        rintro e w3 ⟨rfl, hR3, k3⟩
        replace HR := Lib.hid hR3
        replace HK2 := Lib.hid (HK2.out.trans k3)
        have HL2 : Hid ((l2.drop 1).length ≤ l.length) := Lib.hid (by simp; omega)
        clear hR3 k3 HST
        generalize l2.drop 1 = lx at *
        go_wp2_with fail
        refine (concatenation_any HF.out HGS.out HN.out.1 (by rw [List.length_append, List.length_append, List.length_replicate, Ab.post_len, HN.out.2]) HR.out).mono ?_
        rintro e w4 hO
        have hle : (es ++ post es.length acc).length = es.length + sz acc := by rw [List.length_append, Ab.post_len]
        rw [hle] at hO
        cases ha : Ab.cat f0 (Ab.grp f0 d) lx (es.length + sz acc) with
        | no x =>
          rw [ha] at hO HC
          obtain ⟨rfl, k3⟩ := hO
          refine ⟨rfl, ?_⟩
          rw [← HC.out]
          exact OutN.fail (HK2.out.trans k3)
        | ok t l3 n3 =>
          rw [ha] at hO HC
          obtain ⟨rfl, ⟨vE3, vL3, hR3⟩, k3, hn3, hl3⟩ := hO
          rw [hle] at hR3 hn3
          subst hn3
          have HR3 := Lib.hid hR3
          have HK3 := Lib.hid (HK2.out.trans k3)
          have HL3 := Lib.hid (Nat.le_trans hl3 HL2.out)
          replace HC : Hid (((Ab.add (.eith acc t) l3 (es.length + sz acc + sz t)).bnd fun b l2 n2 => Ab.altl f0 (Ab.grp f0 d) f b l2 n2) = res) := HC
          clear hR3 k3 hl3 ha HR HK2
          rw [hle]
          clear hle
          go_wp2_with fail
          refine (add_more (t := T.eith acc t) (x := ⟨4, [], rootI es.length acc, rootI (es.length + sz acc) t, 0, 0⟩) (qs := post es.length acc ++ post (es.length + sz acc) t) (by rfl) HN.out.2 (l0 := l) (ln := ln) (op := op) (rs := rs) HL3.out (by rw [List.length_append, Ab.post_len, Ab.post_len, ← List.append_assoc, ← List.replicate_append_replicate, ← List.append_assoc]; exact HR3.out) HK3.out).mono ?_
          rintro e w5 hO
          have hA2 : Ab.add (T.eith acc t) l3 (es.length + (post es.length acc ++ post (es.length + sz acc) t).length) = Ab.add (T.eith acc t) l3 (es.length + sz acc + sz t) := by rw [List.length_append, Ab.post_len, Ab.post_len, Nat.add_assoc]
          rw [hA2] at hO
          clear hA2
          cases hA : Ab.add (T.eith acc t) l3 (es.length + sz acc + sz t) with
          | no x =>
            rw [hA] at hO HC
            obtain ⟨rfl, k3⟩ := hO
            refine ⟨rfl, ?_⟩
            rw [← HC.out]
            exact OutN.fail k3
          | ok b l4 n4 =>
            obtain ⟨rfl, rfl, rfl⟩ := Ab.add_ok hA
            rw [hA] at hO HC
            obtain ⟨rfl, ⟨vE5, vL5, hR5⟩, k5, hn5, hl5⟩ := hO
            have HR5 := Lib.hid hR5
            have HK5 := Lib.hid k5
            have HL5 := Lib.hid hl5
            clear hR5 k5 hn5 hl5 HR3 HK3 HL3 hA
            replace HC : Hid (Ab.altl f0 (Ab.grp f0 d) f (.eith acc t) l3 (es.length + sz acc + sz t + 1) = res) := HC
            have HRL6 := Lib.hid (show es.length + sz (.eith acc t) ≤ 1500 by have := HR5.out.le; rw [List.length_append, Ab.post_len] at this; exact this)
            go_wp2_with fail
            go_roundw
            case rel => exact ⟨.eith acc t, l3, f, _, _, rfl, by simp only [sz] at *; omega, HL5.out, Lib.hid (by rw [← HC.out]; congr 1; simp only [sz]; omega), HR5, HK5⟩
            case measure =>
              have e1 := HRL.out
              have e2 := HRL6.out
              have e3 := Ab.sz_pos acc
              rw [Ab.rootI_nat, Ab.rootI_nat]
              simp only [RowKit.intOf, sz, Int.toNat_natCast] at *
              omega
set_option maxRecDepth 100000 in
set_option maxHeartbeats 3200000 in
theorem group_any {f0 : Nat} (hf0 : 1500 < f0) : ∀ d, GroupSaid f0 d := by
  intro d
  induction d with
  | zero =>
    intro w base gg gr bm l ln op es ls rs vE vL c hop hl h
    obtain rfl : op = 16 := by omega
    have H := Lib.hid h
    obtain ⟨c0, c1, c2, c3⟩ := h.cells
    have hres : Hid (Ab.grp f0 0 c l es.length = .no 3) := Lib.hid rfl
    clear h
    go_enter Tryd.func64, Tryd.ntmps64
    go_wp2_with fail
    refine (fails_any 3).mono ?_
    rintro e w3 ⟨rfl, rfl⟩
    refine ⟨rfl, ?_⟩
    rw [hres.out]
    exact OutN.fail (Kp.refl _ _ _ _)
  | succ d ih =>
    intro w base gg gr bm l ln op es ls rs vE vL c hop hl h
    have HGS := Lib.hid ih
    have H := Lib.hid h
    have HF := Lib.hid hf0
    have HN := Lib.hid (And.intro hop hl)
    obtain ⟨c0, c1, c2, c3⟩ := h.cells
    have f3 := h.ice 3
    have hT : Ab.grp f0 (d + 1) c l es.length = (Ab.alt f0 (Ab.grp f0 d) l es.length).bnd fun t l1 n1 => if Ab.nx c l1 then .ok t (l1.drop 1) n1 else .no 8 := rfl
    generalize Ab.grp f0 (d + 1) c l es.length = res at hT ⊢
    have HT := Lib.hid hT
    have h16 : ((op : Int) == 16) = false := by simp; omega
    have W1 : IntKind.i64.wrap ((op : Int) + 1) = ((op + 1 : Nat) : Int) := by rw [IntWalk.i64_in _ (by omega)]; rfl
    have W2 : IntKind.i64.wrap (((op + 1 : Nat) : Int) - 1) = (op : Int) := by rw [IntWalk.i64_in _ (by omega)]; omega
    have W3 : wrap64 (op : Int) = (op : Int) := by unfold wrap64; omega
    have h1 : Hid (RSv (w.setCell ⟨gr, 3, none⟩ (.int .i64 ((op + 1 : Nat) : Int))) base gg gr bm l ln (op + 1) es ls rs vE vL) := Lib.hid (h.setOp (op + 1) (by omega))
    have HK1 : Hid (Kp base gg bm w (w.setCell ⟨gr, 3, none⟩ (.int .i64 ((op + 1 : Nat) : Int)))) := Lib.hid (h.kset (Kp.refl _ _ _ _) 3 _)
    clear h hT ih hop hl hf0
    go_enter Tryd.func64, Tryd.ntmps64
    go_wp2_with fail
    refine (alternation_any HF.out HGS.out (by have := HN.out; omega) HN.out.2 h1.out).mono ?_
    rintro e w2 hO
    cases ha : Ab.alt f0 (Ab.grp f0 d) l es.length with
    | no x =>
      rw [ha] at hO HT
      obtain ⟨rfl, k2⟩ := hO
      refine ⟨rfl, ?_⟩
      rw [HT.out]
      exact OutN.fail (HK1.out.trans k2)
    | ok t l1 n1 =>
      rw [ha] at hO HT
      obtain ⟨rfl, ⟨vE2, vL2, hR2⟩, k2, hn2, hl2⟩ := hO
      have HR2 := Lib.hid hR2
      have HK2 := Lib.hid (HK1.out.trans k2)
      have HL2 := Lib.hid hl2
      have HN2 := Lib.hid hn2
      clear hR2 k2 hl2 hn2 ha HK1 h1
      go_wp2_with fail
      cases hc : Ab.nx c l1
      · replace HT : Hid (res = .no 8) := Lib.hid (HT.out.trans (by simp only [R.bnd, hc]; rfl))
        have HC := Lib.hid hc
        clear hc
        refine (must_no HC.out HR2.out).mono ?_
        rintro e w3 ⟨rfl, k3⟩
        refine ⟨rfl, ?_⟩
        rw [HT.out]
        exact OutN.fail (HK2.out.trans k3)
      · replace HT : Hid (res = .ok t (l1.drop 1) n1) := Lib.hid (HT.out.trans (by simp only [R.bnd, hc]; rfl))
        have HC := Lib.hid hc
        clear hc
        refine (must_yes HC.out HR2.out).mono ?_
        rintro e w3 ⟨⟨rfl, hR3⟩, k3⟩
        have HR3 := Lib.hid hR3
        have HK3 := Lib.hid (HK2.out.trans k3)
        clear hR3 k3 HR2 HK2
        obtain ⟨d0, d1, d2, d3⟩ := HR3.out.cells
        have g3 := HR3.out.ice 3
        have HZ := Lib.hid (HR3.out.setOp op (by have := HN.out; omega))
        have HZK := Lib.hid (HR3.out.kset HK3.out 3 (.int .i64 (op : Int)))
        go_wp2_with fail
        rw [HT.out]
        go_ret
        exact ⟨rfl, ⟨_, _, HZ.out⟩, HZK.out, HN2.out, by have := HL2.out; simp; omega⟩
end
end Go.Proofs.YtckcgiimeaklcaaDoor
