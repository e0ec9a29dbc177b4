/-
  The reader's rule: walked.
-/
import Derived.Test.YtckcgiimeaklcaaDoorAxD
import Derived.Test.YtckcgiimeaklcaaDoorMp
namespace Go.Proofs.YtckcgiimeaklcaaDoor
set_option linter.unusedVariables false
set_option linter.unusedSimpArgs false
open Go.RowKit Go.Proofs.YtckcgiimeaklcaaDoorW.PrintWords
open Ab (T El R Rs sz rootI post els root hasR szs)
section
variable {w0 w : World} {base gg gr bm : Nat} {l l0 : List UInt8} {ln : Int} {op : Nat} {es : List El} {ls : List Int} {rs : Rs} {vE vL : Value}
/-- What a line comes to. -/
def OutL (w : World) (base gg gr bm : Nat) (ln : Int) (es : List El) (ls : List Int) (rs : Rs) (res : R (Option (List UInt8 × T))) (e : Ending) (w' : World) : Prop :=
  match res with
  | .ok none _ _ => e = .returned (.tuple #[]) ∧ RS w' base gg gr bm [] ln 0 es ls rs ∧ Kp base gg bm w w'
  | .ok (some r) _ _ => e = .returned (.tuple #[]) ∧ RS w' base gg gr bm [] ln 0 (es ++ post es.length r.2) (ls ++ List.replicate (sz r.2) ln) (rs ++ [r]) ∧ Kp base gg bm w w'
  | .no x => e = .panicked (flt x) ∧ Kp base gg bm w w'
theorem OutL.fail {x : Int} {w' : World} (hk : Kp base gg bm w w') : OutL w base gg gr bm ln es ls rs (.no x) (.panicked (flt x)) w' := ⟨rfl, hk⟩
set_option maxRecDepth 100000 in
set_option maxHeartbeats 12800000 in
theorem rule_any {f0 : Nat} (hf0 : 1500 < f0) (hl : ls.length = es.length) (hs : es.length = szs rs) (hr : rs.length ≤ 100) (h : RSv w base gg gr bm l ln 0 es ls rs vE vL) :
    Calls Tryd.prog 18 #[.pointer (some ⟨gr, 0, none⟩)] w (OutL w base gg gr bm ln es ls rs (Ab.rule f0 rs l)) := by
  have HX := Lib.hid h
  have HN := Lib.hid (And.intro hl (And.intro hs hr))
  have HF := Lib.hid hf0
  have hT : Ab.rule f0 rs l = if Ab.blanks l = [] then .ok none [] (szs rs) else if rs.length = 100 then .no 3 else
    if (Ab.name (Ab.blanks l)).1 = [] then .no 8 else
    if Ab.nx 61 (Ab.blanks (Ab.name (Ab.blanks l)).2) then
      (Ab.alt f0 (Ab.grp f0 16) ((Ab.blanks (Ab.name (Ab.blanks l)).2).drop 1) (szs rs)).bnd fun t l1 n1 => if hasR rs (Ab.name (Ab.blanks l)).1 = true ∨ l1 ≠ [] then .no 8 else .ok (some ((Ab.name (Ab.blanks l)).1, t)) l1 n1
    else .no 8 := rfl
  generalize Ab.rule f0 rs l = res at hT ⊢
  have HT := Lib.hid hT
  clear h hl hs hr hT hf0
  go_enter Tryd.func18, Tryd.ntmps18
  go_wp2_with fail
  refine (blanks_any HX.out).mono ?_
  rintro e w1 ⟨rfl, hR, kR⟩
  replace HX := Lib.hid hR
  have HK := Lib.hid kR
  clear hR kR
  generalize Ab.blanks l = lb at *
  obtain ⟨c0, c1, c2, c3⟩ := HX.out.cells
  obtain ⟨d0, d1, d2⟩ := HX.out.gcells
  rcases lb with _ | ⟨c, r⟩
  · replace HT : Hid (res = .ok none [] (szs rs)) := Lib.hid (HT.out.trans (if_pos rfl))
    go_wp2_with fail
    go_end0
    rw [HT.out]
    exact ⟨rfl, ⟨_, _, HX.out⟩, HK.out⟩
  · replace HT : Hid (res = if rs.length = 100 then .no 3 else
      if (Ab.name (c :: r)).1 = [] then .no 8 else
      if Ab.nx 61 (Ab.blanks (Ab.name (c :: r)).2) then
        (Ab.alt f0 (Ab.grp f0 16) ((Ab.blanks (Ab.name (c :: r)).2).drop 1) (szs rs)).bnd fun t l1 n1 => if hasR rs (Ab.name (c :: r)).1 = true ∨ l1 ≠ [] then .no 8 else .ok (some ((Ab.name (c :: r)).1, t)) l1 n1
      else .no 8) := Lib.hid (HT.out.trans (if_neg (by simp)))
    have hlen := HX.out.map.len
    by_cases h100 : rs.length = 100
    · replace HT : Hid (res = .no 3) := Lib.hid (HT.out.trans (if_pos h100))
      have t1 : ((rs.length : Int) == 100) = true := by rw [h100]; rfl
      clear h100
      go_wp2_with fail
      refine (fails_any 3).mono ?_
      rintro e w3 ⟨rfl, rfl⟩
      refine ⟨rfl, ?_⟩
      rw [HT.out]
      exact OutL.fail HK.out
    · replace HT : Hid (res = if (Ab.name (c :: r)).1 = [] then .no 8 else
        if Ab.nx 61 (Ab.blanks (Ab.name (c :: r)).2) then
          (Ab.alt f0 (Ab.grp f0 16) ((Ab.blanks (Ab.name (c :: r)).2).drop 1) (szs rs)).bnd fun t l1 n1 => if hasR rs (Ab.name (c :: r)).1 = true ∨ l1 ≠ [] then .no 8 else .ok (some ((Ab.name (c :: r)).1, t)) l1 n1
        else .no 8) := Lib.hid (HT.out.trans (if_neg h100))
      have t1 : ((rs.length : Int) == 100) = false := by simp; omega
      have HLN := Lib.hid (show rs.length < 1000 by have := HN.out.2.2; omega)
      clear h100
      go_wp2_with fail
      refine (name_any HX.out).mono ?_
      rintro e w1 ⟨rfl, hR, kR⟩
      have HNL : Hid ((Ab.name (c :: r)).1.length ≤ 8000) := Lib.hid (by have := HX.out.ll; rw [Ab.name_eq]; simp at this ⊢; omega)
      replace HX := Lib.hid hR
      replace HK := Lib.hid (HK.out.trans kR)
      clear hR kR c0 c1 c2 c3 d0 d1 d2 hlen t1
      generalize Ab.name (c :: r) = nn at *
      obtain ⟨nm, l1⟩ := nn
      rcases nm with _ | ⟨c', r'⟩
      · replace HT : Hid (res = .no 8) := Lib.hid (HT.out.trans (if_pos rfl))
        go_wp2_with fail
        refine (fails_any 8).mono ?_
        rintro e w3 ⟨rfl, rfl⟩
        refine ⟨rfl, ?_⟩
        rw [HT.out]
        exact OutL.fail HK.out
      · replace HT : Hid (res = if Ab.nx 61 (Ab.blanks l1) then
            (Ab.alt f0 (Ab.grp f0 16) ((Ab.blanks l1).drop 1) (szs rs)).bnd fun t l1 n1 => if hasR rs (c' :: r') = true ∨ l1 ≠ [] then .no 8 else .ok (some ((c' :: r'), t)) l1 n1
          else .no 8) := Lib.hid (HT.out.trans (if_neg (by simp)))
        replace HNL : Hid ((c' :: r').length ≤ 8000) := HNL
        go_wp2_with fail
        refine (blanks_any HX.out).mono ?_
        rintro e w1 ⟨rfl, hR, kR⟩
        replace HX := Lib.hid hR
        replace HK := Lib.hid (HK.out.trans kR)
        clear hR kR
        generalize Ab.blanks l1 = l2 at *
        go_wp2_with fail
        cases hc : Ab.nx 61 l2
        · replace HT : Hid (res = .no 8) := Lib.hid (by have := HT.out; rw [hc] at this; exact this)
          refine (must_no (c := 61) hc HX.out).mono ?_
          rintro e w3 ⟨rfl, k3⟩
          refine ⟨rfl, ?_⟩
          rw [HT.out]
          exact OutL.fail (HK.out.trans k3)
        · replace HT : Hid (res = (Ab.alt f0 (Ab.grp f0 16) (l2.drop 1) (szs rs)).bnd fun t l1 n1 => if hasR rs (c' :: r') = true ∨ l1 ≠ [] then .no 8 else .ok (some ((c' :: r'), t)) l1 n1) := Lib.hid (by have := HT.out; rw [hc] at this; exact this)
          refine (must_yes (c := 61) hc HX.out).mono ?_
          rintro e w3 ⟨⟨rfl, hR3⟩, k3⟩
          replace HX := Lib.hid hR3
          replace HK := Lib.hid (HK.out.trans k3)
          clear hR3 k3 hc
          generalize l2.drop 1 = l3 at *
          go_wp2_with fail
          refine (alternation_any HF.out (group_any HF.out 16) (by rfl) HN.out.1 HX.out).mono ?_
          rintro e w4 hO
          rw [HN.out.2.1] at hO
          cases ha : Ab.alt f0 (Ab.grp f0 16) l3 (szs rs) with
          | no x =>
            rw [ha] at hO HT
            obtain ⟨rfl, k2⟩ := hO
            refine ⟨rfl, ?_⟩
            rw [HT.out]
            exact OutL.fail (HK.out.trans k2)
          | ok t l4 n4 =>
            rw [ha] at hO HT
            obtain ⟨rfl, ⟨vE2, vL2, hR2⟩, k2, hn2, hl2⟩ := hO
            replace HX := Lib.hid hR2
            replace HK := Lib.hid (HK.out.trans k2)
            replace HT : Hid (res = if hasR rs (c' :: r') = true ∨ l4 ≠ [] then .no 8 else .ok (some ((c' :: r'), t)) l4 n4) := HT
            clear hR2 k2 hn2 hl2 ha
            rw [HN.out.2.1]
            obtain ⟨c0, c1, c2, c3⟩ := HX.out.cells
            obtain ⟨d0, d1, d2⟩ := HX.out.gcells
            obtain ⟨v, hlook, _⟩ := HX.out.map.look (c' :: r') (by have := HNL.out; unfold maxLen; omega)
            cases hh : hasR rs (c' :: r')
            · rw [hh] at hlook
              rcases l4 with _ | ⟨c4, r4⟩
              · replace HT : Hid (res = .ok (some ((c' :: r'), t)) [] n4) := Lib.hid (HT.out.trans (if_neg (by rw [hh]; simp)))
                obtain ⟨W', hrun, hm, hg⟩ := HX.out.map.put (c' :: r') t HNL.out hh HLN.out (by have := HX.out.le; rw [List.length_append, Ab.post_len, HN.out.2.1] at this; exact this)
                have HZ := Lib.hid (HX.out.putM hm hg)
                clear hm hg hh
                go_wp2_with fail
                go_end0
                rw [HT.out]
                exact ⟨rfl, ⟨_, _, HZ.out.1⟩, HK.out.trans HZ.out.2⟩
              · replace HT : Hid (res = .no 8) := Lib.hid (HT.out.trans (if_pos (by simp)))
                clear hh
                go_wp2_with fail
                refine (fails_any 8).mono ?_
                rintro e w3 ⟨rfl, rfl⟩
                refine ⟨rfl, ?_⟩
                rw [HT.out]
                exact OutL.fail HK.out
            · rw [hh] at hlook
              replace HT : Hid (res = .no 8) := Lib.hid (HT.out.trans (if_pos (Or.inl hh)))
              clear hh
              go_wp2_with fail
              refine (fails_any 8).mono ?_
              rintro e w3 ⟨rfl, rfl⟩
              refine ⟨rfl, ?_⟩
              rw [HT.out]
              exact OutL.fail HK.out
end
end Go.Proofs.YtckcgiimeaklcaaDoor
