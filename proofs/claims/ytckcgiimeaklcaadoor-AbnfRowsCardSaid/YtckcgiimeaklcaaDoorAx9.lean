/-
  The reader's element: walked, given what a group comes to.
-/
import Derived.Test.YtckcgiimeaklcaaDoorAx8
import Derived.Test.YtckcgiimeaklcaaDoorAx5
import Derived.Test.YtckcgiimeaklcaaDoorAx4
import Derived.Test.YtckcgiimeaklcaaDoorAx3
namespace Go.Proofs.YtckcgiimeaklcaaDoor
set_option linter.unusedVariables false
set_option linter.unusedSimpArgs false
open Go.RowKit Go.Proofs.YtckcgiimeaklcaaDoorW.PrintWords
open Ab (T El R Rs sz rootI post els root hasR szs)
namespace Ab
theorem nx_cons {c : UInt8} {l : B} (h : nx c l = true) : ∃ r, l = c :: r := by
  cases l with
  | nil => simp [nx] at h
  | cons d r => have : d = c := by simpa [nx] using h
                exact ⟨r, by rw [this]⟩
theorem pre1 (c : UInt8) (l : B) : Lib.hasPrefix l [c] = nx c l := by
  cases l with
  | nil => rfl
  | cons d r => by_cases h : c = d
                · simp [Lib.hasPrefix, nx, List.isPrefixOf, h]
                · have h2 : ¬ d = c := fun e => h e.symm
                  have e1 : (c == d) = false := by simpa using h
                  have e2 : (d == c) = false := by simpa using h2
                  simp [Lib.hasPrefix, nx, List.isPrefixOf, e1, e2, h, h2]
theorem pre2 (c d : UInt8) (l : B) : Lib.hasPrefix l [c, d] = (nx c l && nx d (l.drop 1)) := by
  cases l with
  | nil => rfl
  | cons x r =>
    have h1 := pre1 c (x :: r)
    have h2 := pre1 d r
    rw [List.drop_one, List.tail_cons, ← h1, ← h2]
    simp [Lib.hasPrefix, List.isPrefixOf]
end Ab
section
variable {w0 w : World} {base gg gr bm : Nat} {l l0 : List UInt8} {ln : Int} {op : Nat} {es : List El} {ls : List Int} {rs : Rs} {vE vL : Value}
theorem is_no {c : UInt8} (hn : Ab.nx c l = false) (h : RSv w base gg gr bm l ln op es ls rs vE vL) : Calls Tryd.prog 40 #[.pointer (some ⟨gr, 0, none⟩), .string ⟨[c].toArray⟩] w fun e w' => e = .returned (.bool false) ∧ RSv w' base gg gr bm l ln op es ls rs vE vL ∧ Kp base gg bm w w' := by
  have := is_any [c] h
  unfold Lib.trimPrefix at this
  rw [Ab.pre1, hn] at this
  exact this
theorem is_yes {c : UInt8} (hn : Ab.nx c l = true) (h : RSv w base gg gr bm l ln op es ls rs vE vL) : Calls Tryd.prog 40 #[.pointer (some ⟨gr, 0, none⟩), .string ⟨[c].toArray⟩] w fun e w' => e = .returned (.bool true) ∧ RSv w' base gg gr bm (l.drop 1) ln op es ls rs vE vL ∧ Kp base gg bm w w' := by
  have := is_any [c] h
  unfold Lib.trimPrefix at this
  rw [Ab.pre1, hn] at this
  exact this
theorem is2_no {c d : UInt8} (hn : (Ab.nx c l && Ab.nx d (l.drop 1)) = false) (h : RSv w base gg gr bm l ln op es ls rs vE vL) : Calls Tryd.prog 40 #[.pointer (some ⟨gr, 0, none⟩), .string ⟨[c, d].toArray⟩] w fun e w' => e = .returned (.bool false) ∧ RSv w' base gg gr bm l ln op es ls rs vE vL ∧ Kp base gg bm w w' := by
  have := is_any [c, d] h
  unfold Lib.trimPrefix at this
  rw [Ab.pre2, hn] at this
  exact this
theorem is2_yes {c d : UInt8} (hn : (Ab.nx c l && Ab.nx d (l.drop 1)) = true) (h : RSv w base gg gr bm l ln op es ls rs vE vL) : Calls Tryd.prog 40 #[.pointer (some ⟨gr, 0, none⟩), .string ⟨[c, d].toArray⟩] w fun e w' => e = .returned (.bool true) ∧ RSv w' base gg gr bm (l.drop 2) ln op es ls rs vE vL ∧ Kp base gg bm w w' := by
  have := is_any [c, d] h
  unfold Lib.trimPrefix at this
  rw [Ab.pre2, hn] at this
  exact this
theorem OutN.fail {x : Int} {w' : World} (hk : Kp base gg bm w w') : OutN w base gg gr bm l ln op es ls rs (.no x) (.panicked (flt x)) w' := ⟨rfl, hk⟩
theorem OutN.from_ {res : R T} {e : Ending} {w' : World} (hk : Kp base gg bm w0 w) (hl : l.length ≤ l0.length) (h : OutN w base gg gr bm l ln op es ls rs res e w') : OutN w0 base gg gr bm l0 ln op es ls rs res e w' := by
  cases res with
  | no x => exact ⟨h.1, hk.trans h.2⟩
  | ok t l' n' =>
    obtain ⟨h1, h2, h3, h4, h5⟩ := h
    exact ⟨h1, h2, hk.trans h3, h4, Nat.le_trans h5 hl⟩
/-- What adds comes to, behind a tree's other elements. -/
theorem add_more {t : T} {x : El} {qs : List El} (hx : post es.length t = qs ++ [x]) (hl : ls.length = es.length) (h0 : l.length ≤ l0.length)
    (h : RSv w base gg gr bm l ln op (es ++ qs) (ls ++ List.replicate qs.length ln) rs vE vL) (hk : Kp base gg bm w0 w) :
    Calls Tryd.prog 42 #[.pointer (some ⟨gr, 0, none⟩), .agg (elC x).toArray] w (OutN w0 base gg gr bm l0 ln op es ls rs (Ab.add t l (es.length + qs.length))) := by
  have hz : sz t = qs.length + 1 := by have := Ab.post_len t es.length; rw [hx] at this; simpa using this.symm
  by_cases hn : es.length + qs.length = 1500
  · refine (adds_long x (by rw [List.length_append]; exact hn) h).mono ?_
    rintro e w1 ⟨rfl, k1⟩
    have e1 : Ab.add t l (es.length + qs.length) = .no 3 := if_pos hn
    rw [e1]
    exact ⟨rfl, hk.trans k1⟩
  · refine (adds_any x (by rw [List.length_append]; exact hn) (by rw [List.length_append, List.length_append, List.length_replicate, hl]) h).mono ?_
    rintro e w1 ⟨rfl, r1, k1⟩
    have e1 : Ab.add t l (es.length + qs.length) = .ok t l (es.length + qs.length + 1) := if_neg hn
    rw [e1]
    refine ⟨?_, ?_, hk.trans k1, by rw [hz]; omega, h0⟩
    · have : rootI es.length t = ((es ++ qs).length : Nat) := by unfold rootI; rw [hz, List.length_append]; omega
      rw [this]
    · rw [hx, hz, List.replicate_succ', ← List.append_assoc, ← List.append_assoc]; exact r1
/-- What is claimed of a group under d more that may be opened. -/
def GroupSaid (f0 d : Nat) : Prop := ∀ (w : World) (base gg gr bm : Nat) (l : List UInt8) (ln : Int) (op : Nat) (es : List El) (ls : List Int) (rs : Rs) (vE vL : Value) (c : UInt8),
  op + d = 16 → ls.length = es.length → RSv w base gg gr bm l ln op es ls rs vE vL →
  Calls Tryd.prog 64 #[.pointer (some ⟨gr, 0, none⟩), .string ⟨[c].toArray⟩] w (OutN w base gg gr bm l ln op es ls rs (Ab.grp f0 d c l es.length))
set_option maxRecDepth 100000 in
set_option maxHeartbeats 3200000 in
theorem elm_group {f0 d : Nat} (HG : GroupSaid f0 d) (hop : op + d = 16) (hl : ls.length = es.length) (h40 : Ab.nx 40 l = true) (h : RSv w base gg gr bm l ln op es ls rs vE vL) :
    Calls Tryd.prog 62 #[.pointer (some ⟨gr, 0, none⟩)] w (OutN w base gg gr bm l ln op es ls rs (Ab.grp f0 d 41 (l.drop 1) es.length)) := by
  have HX := Lib.hid h
  have HGS := Lib.hid HG
  have HN := Lib.hid (And.intro hop hl)
  have H40 := Lib.hid h40
  have HD : Hid ((l.drop 1).length ≤ l.length) := Lib.hid (by simp)
  clear h HG hop hl h40
  generalize hT : Ab.grp f0 d 41 (l.drop 1) es.length = res
  have HT := Lib.hid hT
  clear hT
  go_enter Tryd.func62, Tryd.ntmps62
  go_wp2_with fail
  refine (is_yes (c := 40) H40.out HX.out).mono ?_
  rintro e w1 ⟨rfl, hR, kR⟩
  have HR := Lib.hid hR
  have HK := Lib.hid kR
  clear hR kR
  go_wp2_with fail
  refine (HGS.out _ _ _ _ _ _ _ _ _ _ _ _ _ 41 HN.out.1 HN.out.2 HR.out).mono ?_
  rintro e w2 hO
  rw [HT.out] at hO
  have HO := Lib.hid (OutN.from_ HK.out HD.out hO)
  clear hO
  cases res with
  | no x =>
    obtain ⟨rfl, k3⟩ := HO.out
    exact ⟨rfl, rfl, k3⟩
  | ok t l' n' =>
    obtain ⟨rfl, hZ⟩ := HO.out
    have HZ := Lib.hid hZ
    clear hZ HO
    go_wp2_with fail
    go_ret
    exact ⟨rfl, HZ.out⟩
set_option maxRecDepth 100000 in
set_option maxHeartbeats 3200000 in
theorem elm_opt {f0 d : Nat} (HG : GroupSaid f0 d) (hop : op + d = 16) (hl : ls.length = es.length) (h40 : Ab.nx 40 l = false) (h91 : Ab.nx 91 l = true) (h : RSv w base gg gr bm l ln op es ls rs vE vL) :
    Calls Tryd.prog 62 #[.pointer (some ⟨gr, 0, none⟩)] w (OutN w base gg gr bm l ln op es ls rs ((Ab.grp f0 d 93 (l.drop 1) es.length).bnd fun t l1 n1 => Ab.add (.oft t 0 1) l1 n1)) := by
  have HX := Lib.hid h
  have HGS := Lib.hid HG
  have HN := Lib.hid (And.intro hop hl)
  have H40 := Lib.hid h40
  have H91 := Lib.hid h91
  have HD : Hid ((l.drop 1).length ≤ l.length) := Lib.hid (by simp)
  have HK := Lib.hid (Kp.refl base gg bm w)
  clear h HG hop hl h40 h91
  generalize hT : ((Ab.grp f0 d 93 (l.drop 1) es.length).bnd fun t l1 n1 => Ab.add (.oft t 0 1) l1 n1) = res
  have HT := Lib.hid hT
  clear hT
  go_enter Tryd.func62, Tryd.ntmps62
  go_wp2_with fail
  refine (is_no (c := 40) H40.out HX.out).mono ?_
  rintro e wq ⟨rfl, hR, kR⟩
  replace HK := Lib.hid (HK.out.trans kR)
  replace HX := Lib.hid hR
  clear hR kR
  go_wp2_with fail
  refine (is_yes (c := 91) H91.out HX.out).mono ?_
  rintro e w1 ⟨rfl, hR, kR⟩
  have HR := Lib.hid hR
  replace HK := Lib.hid (HK.out.trans kR)
  clear hR kR
  go_wp2_with fail
  refine (HGS.out _ _ _ _ _ _ _ _ _ _ _ _ _ 93 HN.out.1 HN.out.2 HR.out).mono ?_
  rintro e w2 hO
  cases ha : Ab.grp f0 d 93 (l.drop 1) es.length with
  | no x =>
    rw [ha] at hO HT
    obtain ⟨rfl, k3⟩ := hO
    refine ⟨rfl, ?_⟩
    rw [← HT.out]
    exact OutN.fail (HK.out.trans k3)
  | ok t l1 n1 =>
    rw [ha] at hO HT
    obtain ⟨rfl, ⟨vE2, vL2, hR2⟩, k2, hn2, hl2⟩ := hO
    have HR2 := Lib.hid hR2
    have HK2 := Lib.hid (HK.out.trans k2)
    have HL2 := Lib.hid (Nat.le_trans hl2 HD.out)
    replace HT : Hid (Ab.add (.oft t 0 1) l1 (es.length + (post es.length t).length) = res) := Lib.hid (by rw [Ab.post_len, ← hn2]; exact HT.out)
    clear hR2 k2 hn2 hl2 ha
    go_wp2_with fail
    refine (add_more (t := .oft t 0 1) (x := ⟨5, [], rootI es.length t, 0, 0, 1⟩) (qs := post es.length t) rfl HN.out.2 HL2.out (by rw [Ab.post_len]; exact HR2.out) HK2.out).mono ?_
    rintro e w3 hO
    rw [HT.out] at hO
    cases res with
    | no x =>
      obtain ⟨rfl, k3⟩ := hO
      exact ⟨rfl, rfl, k3⟩
    | ok t l' n' =>
      obtain ⟨rfl, hZ⟩ := hO
      have HZ := Lib.hid hZ
      clear hZ
      go_wp2_with fail
      go_ret
      exact ⟨rfl, HZ.out⟩
end
end Go.Proofs.YtckcgiimeaklcaaDoor
