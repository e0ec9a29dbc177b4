/-
  The reader's repetition: walked, given what a group comes to.
-/
import Derived.Test.YtckcgiimeaklcaaDoorAxA
namespace Go.Proofs.YtckcgiimeaklcaaDoor
set_option linter.unusedVariables false
set_option linter.unusedSimpArgs false
open Go.RowKit Go.Proofs.YtckcgiimeaklcaaDoorW.PrintWords
open Ab (T El R Rs sz rootI post els root hasR szs)
namespace Ab
theorem number_len (l : B) : (number l).2.2.length ≤ l.length := by
  rcases l with _ | ⟨c, t⟩
  · simp [number]
  · rcases t with _ | ⟨d, r⟩
    · by_cases hc : dig c <;> simp [number, hc]
    · by_cases hc : dig c
      · by_cases hd : dig d
        · simp [number, hc, hd]; omega
        · simp [number, hc, hd]
      · simp [number, hc]
end Ab
section
variable {w0 w : World} {base gg gr bm : Nat} {l l0 : List UInt8} {ln : Int} {op : Nat} {es : List El} {ls : List Int} {rs : Rs} {vE vL : Value}
set_option maxRecDepth 100000 in
set_option maxHeartbeats 6400000 in
theorem repetition_any {f0 d : Nat} (HG : GroupSaid f0 d) (hop : op + d = 16) (hl : ls.length = es.length) (h : RSv w base gg gr bm l ln op es ls rs vE vL) :
    Calls Tryd.prog 54 #[.pointer (some ⟨gr, 0, none⟩)] w (OutN w base gg gr bm l ln op es ls rs (Ab.rpt (Ab.grp f0 d) l es.length)) := by
  have HX := Lib.hid h
  have HGS := Lib.hid HG
  have HN := Lib.hid (And.intro hop hl)
  have HL := Lib.hid (Ab.number_len l)
  have HM := number_any h
  have hT : Ab.rpt (Ab.grp f0 d) l es.length = if Ab.nx 42 (Ab.number l).2.2 then
      (if (Ab.number ((Ab.number l).2.2.drop 1)).2.1 = true ∧ (Ab.number ((Ab.number l).2.2.drop 1)).1 < (Ab.number l).1 then .no 8 else
        (Ab.elm (Ab.grp f0 d) (Ab.number ((Ab.number l).2.2.drop 1)).2.2 es.length).bnd fun t l1 n1 => Ab.add (.oft t (Ab.number l).1 (if (Ab.number ((Ab.number l).2.2.drop 1)).2.1 then (Ab.number ((Ab.number l).2.2.drop 1)).1 else -1)) l1 n1)
    else if (Ab.number l).2.1 then (Ab.elm (Ab.grp f0 d) (Ab.number l).2.2 es.length).bnd fun t l1 n1 => Ab.add (.oft t (Ab.number l).1 (Ab.number l).1) l1 n1
    else Ab.elm (Ab.grp f0 d) (Ab.number l).2.2 es.length := rfl
  generalize Ab.rpt (Ab.grp f0 d) l es.length = res at hT ⊢
  generalize Ab.number l = na at *
  obtain ⟨a1, a2, la⟩ := na
  have HT := Lib.hid hT.symm
  clear h HG hop hl hT HX
  go_enter Tryd.func54, Tryd.ntmps54
  go_wp2_with fail
  refine HM.mono ?_
  rintro e w1 ⟨rfl, hR, kR⟩
  have HX := Lib.hid hR
  have HK := Lib.hid kR
  clear hR kR HM
  cases h42 : Ab.nx 42 la
  · have H42 := Lib.hid h42
    cases a2
    · replace HT : Hid (Ab.elm (Ab.grp f0 d) la es.length = res) := Lib.hid (by rw [← HT.out]; simp only [h42]; rfl)
      clear h42
      go_wp2_with fail
      refine (is_no (c := 42) H42.out HX.out).mono ?_
      rintro e wq ⟨rfl, hR, kR⟩
      replace HK := Lib.hid (HK.out.trans kR)
      replace HX := Lib.hid hR
      clear hR kR
      go_wp2_with fail
      refine (element_any HGS.out HN.out.1 HN.out.2 HX.out).mono ?_
      rintro e w2 hO
      rw [HT.out] at hO
      have HO := Lib.hid (OutN.from_ HK.out HL.out hO)
      clear hO
      cases res with
      | no x =>
        obtain ⟨rfl, k3⟩ := HO.out
        exact ⟨rfl, rfl, k3⟩
      | ok t l' n' =>
        obtain ⟨rfl, hZ⟩ := HO.out
        have HZ := Lib.hid hZ
        clear hZ HO
        go_wp2_with fail
        go_ret
        exact ⟨rfl, HZ.out⟩
    · replace HT : Hid (((Ab.elm (Ab.grp f0 d) la es.length).bnd fun t l1 n1 => Ab.add (.oft t a1 a1) l1 n1) = res) := Lib.hid (by rw [← HT.out]; simp only [h42]; rfl)
      clear h42
      go_wp2_with fail
      refine (is_no (c := 42) H42.out HX.out).mono ?_
      rintro e wq ⟨rfl, hR, kR⟩
      replace HK := Lib.hid (HK.out.trans kR)
      replace HX := Lib.hid hR
      clear hR kR
      go_wp2_with fail
      refine (element_any HGS.out HN.out.1 HN.out.2 HX.out).mono ?_
      rintro e w2 hO
      cases ha : Ab.elm (Ab.grp f0 d) la es.length with
      | no x =>
        rw [ha] at hO HT
        obtain ⟨rfl, k3⟩ := hO
        refine ⟨rfl, ?_⟩
        rw [← HT.out]
        exact OutN.fail (HK.out.trans k3)
      | ok t l1 n1 =>
        rw [ha] at hO HT
        obtain ⟨rfl, ⟨vE2, vL2, hR2⟩, k2, hn2, hl2⟩ := hO
        have HR2 := Lib.hid hR2
        have HK2 := Lib.hid (HK.out.trans k2)
        have HL2 := Lib.hid (Nat.le_trans hl2 HL.out)
        replace HT : Hid (Ab.add (.oft t a1 a1) l1 (es.length + (post es.length t).length) = res) := Lib.hid (by rw [Ab.post_len, ← hn2]; exact HT.out)
        clear hR2 k2 hn2 hl2 ha
        go_wp2_with fail
        refine (add_more (t := .oft t a1 a1) (x := ⟨5, [], rootI es.length t, 0, a1, a1⟩) (qs := post es.length t) rfl HN.out.2 HL2.out (by rw [Ab.post_len]; exact HR2.out) HK2.out).mono ?_
        rintro e w3 hO
        rw [HT.out] at hO
        cases res with
        | no x =>
          obtain ⟨rfl, k3⟩ := hO
          exact ⟨rfl, rfl, k3⟩
        | ok t l' n' =>
          obtain ⟨rfl, hZ⟩ := hO
          have HZ := Lib.hid hZ
          clear hZ
          go_wp2_with fail
          go_ret
          exact ⟨rfl, HZ.out⟩
  · have H42 := Lib.hid h42
    replace HT : Hid ((if (Ab.number (la.drop 1)).2.1 = true ∧ (Ab.number (la.drop 1)).1 < a1 then .no 8 else
        (Ab.elm (Ab.grp f0 d) (Ab.number (la.drop 1)).2.2 es.length).bnd fun t l1 n1 => Ab.add (.oft t a1 (if (Ab.number (la.drop 1)).2.1 then (Ab.number (la.drop 1)).1 else -1)) l1 n1) = res) := Lib.hid (by rw [← HT.out]; simp only [h42]; rfl)
    clear h42
    go_wp2_with fail
    refine (is_yes (c := 42) H42.out HX.out).mono ?_
    rintro e wq ⟨rfl, hR, kR⟩
    replace HK := Lib.hid (HK.out.trans kR)
    have HM := number_any hR
    have HLb := Lib.hid (Ab.number_len (la.drop 1))
    clear hR kR HX H42
    generalize Ab.number (la.drop 1) = nb at *
    obtain ⟨b1, b2, lb⟩ := nb
    replace HL : Hid (lb.length ≤ l.length) := Lib.hid (by have h1 := HLb.out; have h2 := HL.out; simp at h1 h2; omega)
    clear HLb
    go_wp2_with fail
    refine HM.mono ?_
    rintro e w1 ⟨rfl, hR, kR⟩
    have HX := Lib.hid hR
    replace HK := Lib.hid (HK.out.trans kR)
    clear hR kR HM
    cases b2
    · replace HT : Hid (((Ab.elm (Ab.grp f0 d) lb es.length).bnd fun t l1 n1 => Ab.add (.oft t a1 (-1)) l1 n1) = res) := Lib.hid (by rw [← HT.out, if_neg (by simp)]; rfl)
      go_wp2_with fail
      refine (element_any HGS.out HN.out.1 HN.out.2 HX.out).mono ?_
      rintro e w2 hO
      cases ha : Ab.elm (Ab.grp f0 d) lb es.length with
      | no x =>
        rw [ha] at hO HT
        obtain ⟨rfl, k3⟩ := hO
        refine ⟨rfl, ?_⟩
        rw [← HT.out]
        exact OutN.fail (HK.out.trans k3)
      | ok t l1 n1 =>
        rw [ha] at hO HT
        obtain ⟨rfl, ⟨vE2, vL2, hR2⟩, k2, hn2, hl2⟩ := hO
        have HR2 := Lib.hid hR2
        have HK2 := Lib.hid (HK.out.trans k2)
        have HL2 := Lib.hid (Nat.le_trans hl2 HL.out)
        replace HT : Hid (Ab.add (.oft t a1 (-1)) l1 (es.length + (post es.length t).length) = res) := Lib.hid (by rw [Ab.post_len, ← hn2]; exact HT.out)
        clear hR2 k2 hn2 hl2 ha
        go_wp2_with fail
        refine (add_more (t := .oft t a1 (-1)) (x := ⟨5, [], rootI es.length t, 0, a1, (-1)⟩) (qs := post es.length t) rfl HN.out.2 HL2.out (by rw [Ab.post_len]; exact HR2.out) HK2.out).mono ?_
        rintro e w3 hO
        rw [HT.out] at hO
        cases res with
        | no x =>
          obtain ⟨rfl, k3⟩ := hO
          exact ⟨rfl, rfl, k3⟩
        | ok t l' n' =>
          obtain ⟨rfl, hZ⟩ := hO
          have HZ := Lib.hid hZ
          clear hZ
          go_wp2_with fail
          go_ret
          exact ⟨rfl, HZ.out⟩
    · by_cases hba : b1 < a1
      · have t1 : decide (b1 < a1) = true := decide_eq_true hba
        replace HT : Hid (.no 8 = res) := Lib.hid (by rw [← HT.out, if_pos ⟨rfl, hba⟩])
        go_wp2_with fail
        refine (fails_any 8).mono ?_
        rintro e w3 ⟨rfl, rfl⟩
        refine ⟨rfl, ?_⟩
        rw [← HT.out]
        exact OutN.fail HK.out
      · have t1 : decide (b1 < a1) = false := decide_eq_false hba
        replace HT : Hid (((Ab.elm (Ab.grp f0 d) lb es.length).bnd fun t l1 n1 => Ab.add (.oft t a1 b1) l1 n1) = res) := Lib.hid (by rw [← HT.out, if_neg (by rintro ⟨_, h⟩; exact hba h)]; rfl)
        clear hba
        go_wp2_with fail
        refine (element_any HGS.out HN.out.1 HN.out.2 HX.out).mono ?_
        rintro e w2 hO
        cases ha : Ab.elm (Ab.grp f0 d) lb es.length with
        | no x =>
          rw [ha] at hO HT
          obtain ⟨rfl, k3⟩ := hO
          refine ⟨rfl, ?_⟩
          rw [← HT.out]
          exact OutN.fail (HK.out.trans k3)
        | ok t l1 n1 =>
          rw [ha] at hO HT
          obtain ⟨rfl, ⟨vE2, vL2, hR2⟩, k2, hn2, hl2⟩ := hO
          have HR2 := Lib.hid hR2
          have HK2 := Lib.hid (HK.out.trans k2)
          have HL2 := Lib.hid (Nat.le_trans hl2 HL.out)
          replace HT : Hid (Ab.add (.oft t a1 b1) l1 (es.length + (post es.length t).length) = res) := Lib.hid (by rw [Ab.post_len, ← hn2]; exact HT.out)
          clear hR2 k2 hn2 hl2 ha
          go_wp2_with fail
          refine (add_more (t := .oft t a1 b1) (x := ⟨5, [], rootI es.length t, 0, a1, b1⟩) (qs := post es.length t) rfl HN.out.2 HL2.out (by rw [Ab.post_len]; exact HR2.out) HK2.out).mono ?_
          rintro e w3 hO
          rw [HT.out] at hO
          cases res with
          | no x =>
            obtain ⟨rfl, k3⟩ := hO
            exact ⟨rfl, rfl, k3⟩
          | ok t l' n' =>
            obtain ⟨rfl, hZ⟩ := hO
            have HZ := Lib.hid hZ
            clear hZ
            go_wp2_with fail
            go_ret
            exact ⟨rfl, HZ.out⟩
end
end Go.Proofs.YtckcgiimeaklcaaDoor
