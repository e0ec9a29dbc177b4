/-
  The reader's element: its other ways, and all of them.
-/
import Derived.Test.YtckcgiimeaklcaaDoorAx9
namespace Go.Proofs.YtckcgiimeaklcaaDoor
set_option linter.unusedVariables false
set_option linter.unusedSimpArgs false
open Go.RowKit Go.Proofs.YtckcgiimeaklcaaDoorW.PrintWords
open Ab (T El R Rs sz rootI post els root hasR szs)
namespace Ab
theorem hex_len {l r : B} {x : Nat} (h : hex l = some (x, r)) : r.length ≤ l.length ∧ x < 256 := by
  rcases l with _ | ⟨a, _ | ⟨b, t⟩⟩
  · simp [hex] at h
  · simp [hex] at h
  · cases ha : hv a with
    | none => simp [hex, ha] at h
    | some m =>
      cases hb : hv b with
      | none => simp [hex, ha, hb] at h
      | some n =>
        have h1 := hv_lt ha
        have h2 := hv_lt hb
        simp [hex, ha, hb] at h
        obtain ⟨rfl, rfl⟩ := h
        simp
        omega
end Ab
section
variable {w0 w : World} {base gg gr bm : Nat} {l l0 : List UInt8} {ln : Int} {op : Nat} {es : List El} {ls : List Int} {rs : Rs} {vE vL : Value}
set_option maxRecDepth 100000 in
set_option maxHeartbeats 3200000 in
theorem elm_lit (hl : ls.length = es.length) (h40 : Ab.nx 40 l = false) (h91 : Ab.nx 91 l = false) (h34 : Ab.nx 34 l = true) (h : RSv w base gg gr bm l ln op es ls rs vE vL) :
    Calls Tryd.prog 62 #[.pointer (some ⟨gr, 0, none⟩)] w (OutN w base gg gr bm l ln op es ls rs (Ab.lit (l.drop 1) es.length)) := by
  have HX := Lib.hid h
  have HN := Lib.hid hl
  have H40 := Lib.hid h40
  have H91 := Lib.hid h91
  have H34 := Lib.hid h34
  have HD : Hid ((l.drop 1).length ≤ l.length) := Lib.hid (by simp)
  have HK := Lib.hid (Kp.refl base gg bm w)
  clear h hl h40 h91 h34
  generalize hT : Ab.lit (l.drop 1) es.length = res
  have HT := Lib.hid hT
  clear hT
  go_enter Tryd.func62, Tryd.ntmps62
  go_wp2_with fail
  refine (is_no (c := 40) H40.out HX.out).mono ?_
  rintro e wq ⟨rfl, hR, kR⟩
  replace HK := Lib.hid (HK.out.trans kR)
  replace HX := Lib.hid hR
  clear hR kR
  go_wp2_with fail
  refine (is_no (c := 91) H91.out HX.out).mono ?_
  rintro e wq ⟨rfl, hR, kR⟩
  replace HK := Lib.hid (HK.out.trans kR)
  replace HX := Lib.hid hR
  clear hR kR
  go_wp2_with fail
  refine (is_yes (c := 34) H34.out HX.out).mono ?_
  rintro e w1 ⟨rfl, hR, kR⟩
  have HR := Lib.hid hR
  replace HK := Lib.hid (HK.out.trans kR)
  clear hR kR
  go_wp2_with fail
  refine (literal_any HN.out HR.out).mono ?_
  rintro e w2 hO
  rw [HT.out] at hO
  have HO := Lib.hid (OutN.from_ HK.out HD.out hO)
  clear hO
  cases res with
  | no x =>
    obtain ⟨rfl, k3⟩ := HO.out
    exact ⟨rfl, rfl, k3⟩
  | ok t l' n' =>
    obtain ⟨rfl, hZ⟩ := HO.out
    have HZ := Lib.hid hZ
    clear hZ HO
    go_wp2_with fail
    go_ret
    exact ⟨rfl, HZ.out⟩
set_option maxRecDepth 100000 in
set_option maxHeartbeats 3200000 in
theorem elm_name (hl : ls.length = es.length) (h40 : Ab.nx 40 l = false) (h91 : Ab.nx 91 l = false) (h34 : Ab.nx 34 l = false) (h37 : (Ab.nx 37 l && Ab.nx 120 (l.drop 1)) = false) (h : RSv w base gg gr bm l ln op es ls rs vE vL) :
    Calls Tryd.prog 62 #[.pointer (some ⟨gr, 0, none⟩)] w (OutN w base gg gr bm l ln op es ls rs (Ab.named l es.length)) := by
  have HX := Lib.hid h
  have HN := Lib.hid hl
  have H40 := Lib.hid h40
  have H91 := Lib.hid h91
  have H34 := Lib.hid h34
  have H37 := Lib.hid h37
  have HD : Hid ((Ab.name l).2.length ≤ l.length) := Lib.hid (by rw [Ab.name_eq]; simp)
  have HK := Lib.hid (Kp.refl base gg bm w)
  have hT : Ab.named l es.length = if (Ab.name l).1 = [] then .no 8 else Ab.add (.nam (Ab.name l).1) (Ab.name l).2 es.length := rfl
  generalize Ab.named l es.length = res at hT ⊢
  have HT := Lib.hid hT
  clear h hl h40 h91 h34 h37 hT
  go_enter Tryd.func62, Tryd.ntmps62
  go_wp2_with fail
  refine (is_no (c := 40) H40.out HX.out).mono ?_
  rintro e wq ⟨rfl, hR, kR⟩
  replace HK := Lib.hid (HK.out.trans kR)
  replace HX := Lib.hid hR
  clear hR kR
  go_wp2_with fail
  refine (is_no (c := 91) H91.out HX.out).mono ?_
  rintro e wq ⟨rfl, hR, kR⟩
  replace HK := Lib.hid (HK.out.trans kR)
  replace HX := Lib.hid hR
  clear hR kR
  go_wp2_with fail
  refine (is_no (c := 34) H34.out HX.out).mono ?_
  rintro e wq ⟨rfl, hR, kR⟩
  replace HK := Lib.hid (HK.out.trans kR)
  replace HX := Lib.hid hR
  clear hR kR
  go_wp2_with fail
  refine (is2_no (c := 37) (d := 120) H37.out HX.out).mono ?_
  rintro e wq ⟨rfl, hR, kR⟩
  replace HK := Lib.hid (HK.out.trans kR)
  replace HX := Lib.hid hR
  clear hR kR
  go_wp2_with fail
  refine (name_any HX.out).mono ?_
  rintro e w1 ⟨rfl, hR, kR⟩
  have HR := Lib.hid hR
  replace HK := Lib.hid (HK.out.trans kR)
  clear hR kR
  generalize (Ab.name l).1 = nm at *
  cases nm with
  | nil =>
    replace HT : Hid (res = .no 8) := Lib.hid (HT.out.trans (if_pos rfl))
    go_wp2_with fail
    refine (fails_any 8).mono ?_
    rintro e w3 ⟨rfl, rfl⟩
    refine ⟨rfl, ?_⟩
    rw [HT.out]
    exact OutN.fail HK.out
  | cons c t =>
    have HT2 : Hid (Ab.add (.nam (c :: t)) (Ab.name l).2 (es.length + ([] : List El).length) = res) := Lib.hid (by rw [HT.out, if_neg (by simp)]; rfl)
    go_wp2_with fail
    refine (add_more (t := .nam (c :: t)) (x := ⟨2, c :: t, 0, 0, 0, 0⟩) (qs := []) rfl HN.out HD.out (by simpa using HR.out) HK.out).mono ?_
    rintro e w3 hO
    rw [HT2.out] at hO
    cases res with
    | no x =>
      obtain ⟨rfl, k3⟩ := hO
      exact ⟨rfl, rfl, k3⟩
    | ok t l' n' =>
      obtain ⟨rfl, hZ⟩ := hO
      have HZ := Lib.hid hZ
      clear hZ
      go_wp2_with fail
      go_ret
      exact ⟨rfl, HZ.out⟩
set_option maxRecDepth 100000 in
set_option maxHeartbeats 6400000 in
theorem elm_span (hl : ls.length = es.length) (h40 : Ab.nx 40 l = false) (h91 : Ab.nx 91 l = false) (h34 : Ab.nx 34 l = false) (h37 : (Ab.nx 37 l && Ab.nx 120 (l.drop 1)) = true) (h : RSv w base gg gr bm l ln op es ls rs vE vL) :
    Calls Tryd.prog 62 #[.pointer (some ⟨gr, 0, none⟩)] w (OutN w base gg gr bm l ln op es ls rs (Ab.spans (l.drop 2) es.length)) := by
  have HX := Lib.hid h
  have HN := Lib.hid hl
  have H40 := Lib.hid h40
  have H91 := Lib.hid h91
  have H34 := Lib.hid h34
  have H37 := Lib.hid h37
  have HD : Hid ((l.drop 2).length ≤ l.length) := Lib.hid (by simp)
  have HK := Lib.hid (Kp.refl base gg bm w)
  generalize hT : Ab.spans (l.drop 2) es.length = res
  have HT := Lib.hid hT
  clear h hl h40 h91 h34 h37 hT
  go_enter Tryd.func62, Tryd.ntmps62
  go_wp2_with fail
  refine (is_no (c := 40) H40.out HX.out).mono ?_
  rintro e wq ⟨rfl, hR, kR⟩
  replace HK := Lib.hid (HK.out.trans kR)
  replace HX := Lib.hid hR
  clear hR kR
  go_wp2_with fail
  refine (is_no (c := 91) H91.out HX.out).mono ?_
  rintro e wq ⟨rfl, hR, kR⟩
  replace HK := Lib.hid (HK.out.trans kR)
  replace HX := Lib.hid hR
  clear hR kR
  go_wp2_with fail
  refine (is_no (c := 34) H34.out HX.out).mono ?_
  rintro e wq ⟨rfl, hR, kR⟩
  replace HK := Lib.hid (HK.out.trans kR)
  replace HX := Lib.hid hR
  clear hR kR
  go_wp2_with fail
  refine (is2_yes (c := 37) (d := 120) H37.out HX.out).mono ?_
  rintro e wq ⟨rfl, hR, kR⟩
  replace HK := Lib.hid (HK.out.trans kR)
  replace HX := Lib.hid hR
  clear hR kR
  generalize l.drop 2 = l2 at *
  go_wp2_with fail
  refine (hex_any HX.out).mono ?_
  rintro e w1 hO
  cases ha : Ab.hex l2 with
  | none =>
    rw [ha] at hO
    obtain ⟨rfl, k3⟩ := hO
    refine ⟨rfl, ?_⟩
    have : res = .no 8 := by rw [← HT.out]; unfold Ab.spans; rw [ha]
    rw [this]
    exact OutN.fail (HK.out.trans k3)
  | some xr =>
    obtain ⟨x, l3⟩ := xr
    rw [ha] at hO
    obtain ⟨rfl, hR, kR⟩ := hO
    replace HX := Lib.hid hR
    replace HK := Lib.hid (HK.out.trans kR)
    replace HT : Hid ((if Ab.nx 45 l3 then (match Ab.hex (l3.drop 1) with
      | none => .no 8
      | some (y, l2) => if y < x then .no 8 else Ab.add (.spn x y) l2 es.length) else Ab.add (.spn x x) l3 es.length) = res) := Lib.hid (by rw [← HT.out]; unfold Ab.spans; rw [ha]; rfl)
    have HL := Lib.hid (Ab.hex_len ha)
    clear hR kR ha
    cases h45 : Ab.nx 45 l3
    · replace HT : Hid (Ab.add (.spn x x) l3 (es.length + ([] : List El).length) = res) := Lib.hid (by rw [← HT.out, h45]; rfl)
      have H45 := Lib.hid h45
      clear h45
      go_wp2_with fail
      refine (is_no (c := 45) H45.out HX.out).mono ?_
      rintro e wq ⟨rfl, hR, kR⟩
      replace HK := Lib.hid (HK.out.trans kR)
      replace HX := Lib.hid hR
      clear hR kR
      have t1 : decide ((x : Int) < (x : Int)) = false := decide_eq_false (by omega)
      go_wp2_with fail
      refine (add_more (t := .spn x x) (x := ⟨1, [], 0, 0, x, x⟩) (qs := []) rfl HN.out (Nat.le_trans HL.out.1 HD.out) (by simpa using HX.out) HK.out).mono ?_
      rintro e w3 hO
      rw [HT.out] at hO
      cases res with
      | no x =>
        obtain ⟨rfl, k3⟩ := hO
        exact ⟨rfl, rfl, k3⟩
      | ok t l' n' =>
        obtain ⟨rfl, hZ⟩ := hO
        have HZ := Lib.hid hZ
        clear hZ
        go_wp2_with fail
        go_ret
        exact ⟨rfl, HZ.out⟩
    · replace HT : Hid ((match Ab.hex (l3.drop 1) with
        | none => .no 8
        | some (y, l2) => if y < x then .no 8 else Ab.add (.spn x y) l2 es.length) = res) := Lib.hid (by rw [← HT.out, h45]; rfl)
      have H45 := Lib.hid h45
      have HL3 : Hid ((l3.drop 1).length ≤ l.length) := Lib.hid (by have := HL.out.1; have := HD.out; simp; omega)
      clear h45
      go_wp2_with fail
      refine (is_yes (c := 45) H45.out HX.out).mono ?_
      rintro e w3 ⟨rfl, hR, kR⟩
      replace HX := Lib.hid hR
      replace HK := Lib.hid (HK.out.trans kR)
      clear hR kR H45
      generalize l3.drop 1 = l4 at *
      go_wp2_with fail
      refine (hex_any HX.out).mono ?_
      rintro e w1 hO
      cases ha : Ab.hex l4 with
      | none =>
        rw [ha] at hO HT
        obtain ⟨rfl, k3⟩ := hO
        refine ⟨rfl, ?_⟩
        rw [← HT.out]
        exact OutN.fail (HK.out.trans k3)
      | some xr =>
        obtain ⟨y, l5⟩ := xr
        rw [ha] at hO HT
        obtain ⟨rfl, hR, kR⟩ := hO
        replace HX := Lib.hid hR
        replace HK := Lib.hid (HK.out.trans kR)
        replace HT : Hid ((if y < x then .no 8 else Ab.add (.spn x y) l5 es.length) = res) := HT
        have HL5 := Lib.hid (Ab.hex_len ha)
        clear hR kR ha
        by_cases hyx : y < x
        · have t1 : decide ((y : Int) < (x : Int)) = true := decide_eq_true (by omega)
          go_wp2_with fail
          refine (fails_any 8).mono ?_
          rintro e w3 ⟨rfl, rfl⟩
          refine ⟨rfl, ?_⟩
          rw [← HT.out, if_pos hyx]
          exact OutN.fail HK.out
        · have t1 : decide ((y : Int) < (x : Int)) = false := decide_eq_false (by omega)
          replace HT : Hid (Ab.add (.spn x y) l5 (es.length + ([] : List El).length) = res) := Lib.hid (by rw [← HT.out, if_neg hyx]; rfl)
          go_wp2_with fail
          refine (add_more (t := .spn x y) (x := ⟨1, [], 0, 0, x, y⟩) (qs := []) rfl HN.out (Nat.le_trans HL5.out.1 HL3.out) (by simpa using HX.out) HK.out).mono ?_
          rintro e w3 hO
          rw [HT.out] at hO
          cases res with
          | no x =>
            obtain ⟨rfl, k3⟩ := hO
            exact ⟨rfl, rfl, k3⟩
          | ok t l' n' =>
            obtain ⟨rfl, hZ⟩ := hO
            have HZ := Lib.hid hZ
            clear hZ
            go_wp2_with fail
            go_ret
            exact ⟨rfl, HZ.out⟩
theorem element_any {f0 d : Nat} (HG : GroupSaid f0 d) (hop : op + d = 16) (hl : ls.length = es.length) (h : RSv w base gg gr bm l ln op es ls rs vE vL) :
    Calls Tryd.prog 62 #[.pointer (some ⟨gr, 0, none⟩)] w (OutN w base gg gr bm l ln op es ls rs (Ab.elm (Ab.grp f0 d) l es.length)) := by
  unfold Ab.elm
  cases h40 : Ab.nx 40 l
  · cases h91 : Ab.nx 91 l
    · cases h34 : Ab.nx 34 l
      · cases h37 : (Ab.nx 37 l && Ab.nx 120 (l.drop 1))
        · exact elm_name hl h40 h91 h34 h37 h
        · exact elm_span hl h40 h91 h34 h37 h
      · exact elm_lit hl h40 h91 h34 h
    · exact elm_opt HG hop hl h40 h91 h
  · exact elm_group HG hop hl h40 h
end
end Go.Proofs.YtckcgiimeaklcaaDoor
