/-
  The reader's concatenation: walked, given what a group comes to.
-/
import Derived.Test.YtckcgiimeaklcaaDoorAxB
import Derived.Test.YtckcgiimeaklcaaDoorAvl
namespace Go.Proofs.YtckcgiimeaklcaaDoor
set_option linter.unusedVariables false
set_option linter.unusedSimpArgs false
open Go.RowKit Go.Proofs.YtckcgiimeaklcaaDoorW.PrintWords
open Ab (T El R Rs sz rootI post els root hasR szs)
namespace Ab
theorem add_ok {t t' : T} {l l' : B} {n n' : Nat} (h : add t l n = .ok t' l' n') : t = t' ∧ l = l' ∧ n + 1 = n' := by
  unfold add at h
  split at h
  · cases h
  · cases h
    exact ⟨rfl, rfl, rfl⟩
theorem catl_stop {g : UInt8 → B → Nat → R T} {f n : Nat} {acc : T} {l : B} (h : stops l = true) : catl g (f + 1) acc l n = .ok acc l n := by rw [catl, h]; rfl
theorem catl_go {g : UInt8 → B → Nat → R T} {f n : Nat} {acc : T} {l : B} (h : stops l = false) : catl g (f + 1) acc l n = (rpt g l n).bnd fun t l1 n1 => (add (.both acc t) l1 n1).bnd fun b l2 n2 => catl g f b (blanks l2) n2 := by rw [catl, h]; rfl
theorem stops_eq (c : UInt8) (t : B) : stops (c :: t) = List.contains [47, 41, 93] c := by
  simp only [stops, List.contains, List.elem]
  cases c == 47 <;> cases c == 41 <;> cases c == 93 <;> rfl
theorem rootI_nat (n : Nat) (t : T) : rootI n t = ((n + sz t - 1 : Nat) : Int) := by
  have := sz_pos t
  unfold rootI
  omega
end Ab
section
variable {w0 w : World} {base gg gr bm : Nat} {l l0 : List UInt8} {ln : Int} {op : Nat} {es : List El} {ls : List Int} {rs : Rs} {vE vL : Value}
set_option maxRecDepth 100000 in
set_option maxHeartbeats 6400000 in
theorem concatenation_any {f0 d : Nat} (hf0 : 1500 < f0) (HG : GroupSaid f0 d) (hop : op + d = 16) (hl : ls.length = es.length) (h : RSv w base gg gr bm l ln op es ls rs vE vL) :
    Calls Tryd.prog 41 #[.pointer (some ⟨gr, 0, none⟩)] w (OutN w base gg gr bm l ln op es ls rs (Ab.cat f0 (Ab.grp f0 d) l es.length)) := by
  have HX := Lib.hid h
  have HGS := Lib.hid HG
  have HN := Lib.hid (And.intro hop hl)
  have HF := Lib.hid hf0
  have hT : Ab.cat f0 (Ab.grp f0 d) l es.length = (Ab.rpt (Ab.grp f0 d) (Ab.blanks l) es.length).bnd fun t l1 n1 => Ab.catl (Ab.grp f0 d) f0 t (Ab.blanks l1) n1 := rfl
  generalize Ab.cat f0 (Ab.grp f0 d) l es.length = res at hT ⊢
  have HT := Lib.hid hT.symm
  clear h HG hop hl hT hf0
  go_enter Tryd.func41, Tryd.ntmps41
  go_wp2_with fail
  refine (blanks_any HX.out).mono ?_
  rintro e w1 ⟨rfl, hR, kR⟩
  replace HX := Lib.hid hR
  have HK := Lib.hid kR
  have HL := Lib.hid (blanks_len l)
  clear hR kR
  generalize Ab.blanks l = lb at *
  go_wp2_with fail
  refine (repetition_any HGS.out HN.out.1 HN.out.2 HX.out).mono ?_
  rintro e w2 hO
  cases ha : Ab.rpt (Ab.grp f0 d) lb es.length with
  | no x =>
    rw [ha] at hO HT
    obtain ⟨rfl, k3⟩ := hO
    refine ⟨rfl, ?_⟩
    rw [← HT.out]
    exact OutN.fail (HK.out.trans k3)
  | ok t l1 n1 =>
    rw [ha] at hO HT
    obtain ⟨rfl, ⟨vE2, vL2, hR2⟩, k2, hn2, hl2⟩ := hO
    replace HX := Lib.hid hR2
    replace HK := Lib.hid (HK.out.trans k2)
    replace HL := Lib.hid (Nat.le_trans hl2 HL.out)
    replace HT : Hid (Ab.catl (Ab.grp f0 d) f0 t (Ab.blanks l1) (es.length + sz t) = res) := Lib.hid (by rw [← hn2]; exact HT.out)
    clear hR2 k2 hn2 hl2 ha
    go_wp2_with fail
    refine (blanks_any HX.out).mono ?_
    rintro e w3 ⟨rfl, hR, kR⟩
    replace HX := Lib.hid hR
    replace HK := Lib.hid (HK.out.trans kR)
    replace HL := Lib.hid (Nat.le_trans (blanks_len l1) HL.out)
    clear hR kR
    generalize Ab.blanks l1 = la at *
    go_wp2_with fail
    go_loopw [3] (fun v3 wr => ∃ (acc : T) (l2 : List UInt8) (f : Nat) (vE' vL' : Value), v3 = .int .i64 (rootI es.length acc) ∧ 1500 < f + (es.length + sz acc) ∧ l2.length ≤ l.length ∧ Hid (Ab.catl (Ab.grp f0 d) f acc l2 (es.length + sz acc) = res) ∧ Hid (RSv wr base gg gr bm l2 ln op (es ++ post es.length acc) (ls ++ List.replicate (sz acc) ln) rs vE' vL') ∧ Hid (Kp base gg bm w wr)) (fun v3 _ => 1500 - (RowKit.intOf v3).toNat)
    case atStart => exact ⟨t, la, f0, vE2, vL2, rfl, by have := HF.out; omega, HL.out, HT, HX, HK⟩
    case round =>
      clear HT HX HK HL
      obtain ⟨acc, l2, f, vE2, vL2, rfl, hf, hl2, HC, HR, HK2⟩ := hrel
      rcases f with _ | f
      · have := HR.out.le; rw [List.length_append, Ab.post_len] at this; omega
      obtain ⟨c0, c1, c2, c3⟩ := HR.out.cells
      have HRL := Lib.hid (show es.length + sz acc ≤ 1500 by have := HR.out.le; rw [List.length_append, Ab.post_len] at this; exact this)
      cases hst : Ab.stops l2
      · rcases l2 with _ | ⟨c, r⟩
        · cases hst
        · replace HC := Lib.hid ((Ab.catl_go hst).symm.trans HC.out)
          have HCN : Hid (List.contains [47, 41, 93] c = false) := Lib.hid ((Ab.stops_eq c r).symm.trans hst)
          clear hst
          go_wp2_with fail
          refine (rixb_any c [47, 41, 93] _).mono ?_
          rintro e w2 ⟨i, rfl, hi, rfl⟩
          rw [HCN.out] at hi
          have t1 : decide (i < 0) = true := decide_eq_true (by have := of_decide_eq_false hi; omega)
          clear hi
          go_wp2_with fail
          refine (repetition_any HGS.out HN.out.1 (by rw [List.length_append, List.length_append, List.length_replicate, Ab.post_len, HN.out.2]) HR.out).mono ?_
          rintro e w4 hO
          have hle : (es ++ post es.length acc).length = es.length + sz acc := by rw [List.length_append, Ab.post_len]
          rw [hle] at hO
          cases ha : Ab.rpt (Ab.grp f0 d) (c :: r) (es.length + sz acc) with
          | no x =>
            rw [ha] at hO HC
            obtain ⟨rfl, k3⟩ := hO
            refine ⟨rfl, ?_⟩
            rw [← HC.out]
            exact OutN.fail (HK2.out.trans k3)
          | ok t l3 n3 =>
            rw [ha] at hO HC
            obtain ⟨rfl, ⟨vE3, vL3, hR3⟩, k3, hn3, hl3⟩ := hO
            rw [hle] at hR3 hn3
            subst hn3
            have HR3 := Lib.hid hR3
            have HK3 := Lib.hid (HK2.out.trans k3)
            have HL3 := Lib.hid (Nat.le_trans hl3 hl2)
            replace HC : Hid (((Ab.add (.both acc t) l3 (es.length + sz acc + sz t)).bnd fun b l2 n2 => Ab.catl (Ab.grp f0 d) f b (Ab.blanks l2) n2) = res) := HC
            clear hR3 k3 hl3 ha HR HK2 c0 c1 c2 c3
            rw [hle]
            clear hle
            go_wp2_with fail
            refine (add_more (t := T.both acc t) (x := ⟨3, [], rootI es.length acc, rootI (es.length + sz acc) t, 0, 0⟩) (qs := post es.length acc ++ post (es.length + sz acc) t) (by rfl) HN.out.2 (l0 := l) (ln := ln) (op := op) (rs := rs) HL3.out (by rw [List.length_append, Ab.post_len, Ab.post_len, ← List.append_assoc, ← List.replicate_append_replicate, ← List.append_assoc]; exact HR3.out) HK3.out).mono ?_
            rintro e w5 hO
            have hA2 : Ab.add (T.both acc t) l3 (es.length + (post es.length acc ++ post (es.length + sz acc) t).length) = Ab.add (T.both acc t) l3 (es.length + sz acc + sz t) := by rw [List.length_append, Ab.post_len, Ab.post_len, Nat.add_assoc]
            rw [hA2] at hO
            clear hA2
            cases hA : Ab.add (T.both acc t) l3 (es.length + sz acc + sz t) with
            | no x =>
              rw [hA] at hO HC
              obtain ⟨rfl, k3⟩ := hO
              refine ⟨rfl, ?_⟩
              rw [← HC.out]
              exact OutN.fail k3
            | ok b l4 n4 =>
              obtain ⟨rfl, rfl, rfl⟩ := Ab.add_ok hA
              rw [hA] at hO HC
              obtain ⟨rfl, ⟨vE5, vL5, hR5⟩, k5, hn5, hl5⟩ := hO
              have HR5 := Lib.hid hR5
              have HK5 := Lib.hid k5
              have HL5 := Lib.hid hl5
              clear hR5 k5 hn5 hl5 HR3 HK3 HL3 hA
              replace HC : Hid (Ab.catl (Ab.grp f0 d) f (.both acc t) (Ab.blanks l3) (es.length + sz acc + sz t + 1) = res) := HC
              go_wp2_with fail
              refine (blanks_any HR5.out).mono ?_
              rintro e w6 ⟨rfl, hR6, k6⟩
              have HR6 := Lib.hid hR6
              have HK6 := Lib.hid (HK5.out.trans k6)
              clear hR6 k6 HR5 HK5
              have HRL6 := Lib.hid (show es.length + sz (.both acc t) ≤ 1500 by have := HR6.out.le; rw [List.length_append, Ab.post_len] at this; exact this)
              go_wp2_with fail
              go_roundw
              case rel => exact ⟨.both acc t, Ab.blanks l3, f, _, _, rfl, by simp only [sz] at *; omega, Nat.le_trans (blanks_len l3) HL5.out, Lib.hid (by rw [← HC.out]; congr 1; simp only [sz]; omega), HR6, HK6⟩
              case measure =>
                have e1 := HRL.out
                have e2 := HRL6.out
                have e3 := Ab.sz_pos acc
                rw [Ab.rootI_nat, Ab.rootI_nat]
                simp only [RowKit.intOf, sz, Int.toNat_natCast] at *
                omega
      · have hres : Hid (res = .ok acc l2 (es.length + sz acc)) := Lib.hid (HC.out.symm.trans (Ab.catl_stop hst))
        have HZ : Hid (RS wr base gg gr bm l2 ln op (es ++ post es.length acc) (ls ++ List.replicate (sz acc) ln) rs ∧ Kp base gg bm w wr) := Lib.hid ⟨⟨_, _, HR.out⟩, HK2.out⟩
        rcases l2 with _ | ⟨c, r⟩
        · clear HC hst HR HK2
          go_wp2_with fail
          rw [hres.out]
          go_ret
          exact ⟨rfl, HZ.out.1, HZ.out.2, rfl, hl2⟩
        · have HCN : Hid (List.contains [47, 41, 93] c = true) := Lib.hid ((Ab.stops_eq c r).symm.trans hst)
          clear HC hst HR HK2
          go_wp2_with fail
          refine (rixb_any c [47, 41, 93] _).mono ?_
          rintro e w2 ⟨i, rfl, hi, rfl⟩
          rw [HCN.out] at hi
          have t1 : decide (i < 0) = false := decide_eq_false (by have := of_decide_eq_true hi; omega)
          clear hi
          go_wp2_with fail
          rw [hres.out]
          go_ret
          exact ⟨rfl, HZ.out.1, HZ.out.2, rfl, hl2⟩
end
end Go.Proofs.YtckcgiimeaklcaaDoor
