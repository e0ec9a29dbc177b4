/-
  The reader's times: walked.
-/
import Derived.Test.YtebkaajnnjfhjaaRx6
namespace Go.Proofs.Ytebkaajnnjfhjaa
set_option linter.unusedVariables false
set_option linter.unusedSimpArgs false
open Go.RowKit Go.Proofs.YtebkaajnnjfhjaaW.PrintWords
open Tr (Nd Pt T R sz rootI post)

namespace Tr
theorem nx_false {x : UInt8} (r : B) (h : nx x r = false) : nx x r = false := h
theorem tim_0 {r : B} {p : Nat} (h1 : nx 42 r = false) (h2 : nx 43 r = false) (h3 : nx 63 r = false) (h4 : nx 123 r = false) : tim r p = .ok none r p := by unfold tim; simp only [h1, h2, h3, h4]; rfl
theorem tim_4 {t : B} {p : Nat} : tim (123 :: t) p = (digit t (p + 1)).bnd fun mn l1 p1 =>
      if nx 44 l1 then (digit (l1.drop 1) (p1 + 1)).bnd fun mx l2 p2 => if mx < mn then .no (p1 + 1) 8 else brace mn mx l2 p2
      else brace mn mn l1 p1 := rfl
end Tr
def encT : Option (Int × Int) → Value
  | none => .tuple #[.int .i64 0, .int .i64 0, .bool false]
  | some x => .tuple #[.int .i64 x.1, .int .i64 x.2, .bool true]
section
variable {w0 w w1 : World} {base g : Nat} {l r : List UInt8} {p op : Nat} {ns : List Nd} {ps : List Pt} {vN vP : Value}
set_option maxHeartbeats 3200000 in
theorem rdtimes_any (h : RS w base g l r p op ns ps vN vP) : Calls Try.prog 30 #[.pointer (some ⟨g, 0, none⟩)] w (OutR w base g l op ns ps vN vP encT (Tr.tim r p)) := by
  have H := Lib.hid h
  generalize ht : Tr.tim r p = res
  have HT := Lib.hid ht
  clear h ht
  go_enter Try.func30, Try.ntmps30
  go_wp2_with fail
  cases h42 : Tr.nx 42 r
  · have HI := is_any 42 H.out
    rw [h42] at HI
    have H42 := Lib.hid h42
    clear h42
    refine HI.mono ?_
    rintro e w1 ⟨rfl, hR1, B1⟩
    have HR1 : Hid (RS w1 base g l r p op ns ps vN vP) := Lib.hid hR1
    have HB1 := Lib.hid B1
    clear hR1 B1
    go_wp2_with fail
    cases h43 : Tr.nx 43 r
    · have HI := is_any 43 HR1.out
      rw [h43] at HI
      have H43 := Lib.hid h43
      clear h43
      refine HI.mono ?_
      rintro e w2 ⟨rfl, hR2, B2⟩
      have HR2 : Hid (RS w2 base g l r p op ns ps vN vP) := Lib.hid hR2
      have HB2 := Lib.hid (HB1.out.trans B2)
      clear hR2 B2 HR1 HB1
      go_wp2_with fail
      cases h63 : Tr.nx 63 r
      · have HI := is_any 63 HR2.out
        rw [h63] at HI
        have H63 := Lib.hid h63
        clear h63
        refine HI.mono ?_
        rintro e w3 ⟨rfl, hR3, B3⟩
        have HR3 : Hid (RS w3 base g l r p op ns ps vN vP) := Lib.hid hR3
        have HB3 := Lib.hid (HB2.out.trans B3)
        clear hR3 B3 HR2 HB2
        go_wp2_with fail
        cases h123 : Tr.nx 123 r
        · have HI := is_any 123 HR3.out
          rw [h123] at HI
          have hres := HT.out.symm.trans (Tr.tim_0 H42.out H43.out H63.out h123)
          have H123 := Lib.hid h123
          clear h123
          refine HI.mono ?_
          rintro e w4 ⟨rfl, hR4, B4⟩
          have HZ := Lib.hid (And.intro hR4 (HB3.out.trans B4))
          clear hR4 B4
          have HRES := Lib.hid hres
          clear hres
          go_wp2_with fail
          rw [HRES.out]
          exact bodyPost_ret (v := .tuple #[.int .i64 0, .int .i64 0, .bool false]) (by simp [results, Try.results30]) rfl ⟨rfl, HZ.out⟩
        · obtain ⟨t, rfl⟩ := Tr.nx_cons h123
          have HI := is_any 123 HR3.out
          rw [h123] at HI
          clear h123
          replace HT := Lib.hid (HT.out.symm.trans Tr.tim_4)
          refine HI.mono ?_
          rintro e w4 ⟨rfl, hR4, B4⟩
          have HR4 : Hid (RS w4 base g l t (p + 1) op ns ps vN vP) := Lib.hid hR4
          have HB4 := Lib.hid (HB3.out.trans B4)
          clear hR4 B4 HR3 HB3
          go_wp2_with fail
          refine (digit_any HR4.out).mono ?_
          rintro e w5 hO
          cases hd : Tr.digit t (p + 1) with
          | no q x =>
            rw [hd] at hO HT
            obtain ⟨rfl, B5⟩ := hO
            refine ⟨rfl, ?_⟩
            rw [HT.out]
            exact OutR.fail (HB4.out.trans B5)
          | ok mn l1 p1 =>
            rw [hd] at hO HT
            obtain ⟨rfl, hR5, B5⟩ := hO
            have HR5 := Lib.hid hR5
            have HB5 := Lib.hid (HB4.out.trans B5)
            clear hR5 B5 HR4 HB4 hd
            replace HT : Hid (res = if Tr.nx 44 l1 then (Tr.digit (l1.drop 1) (p1 + 1)).bnd fun mx l2 p2 => if mx < mn then .no (p1 + 1) 8 else Tr.brace mn mx l2 p2 else Tr.brace mn mn l1 p1) := HT
            go_wp2_with fail
            cases h44 : Tr.nx 44 l1
            · have HI := is_any 44 HR5.out
              rw [h44] at HI HT
              replace HT : Hid (res = Tr.brace mn mn l1 p1) := HT
              clear h44
              refine HI.mono ?_
              rintro e w6 ⟨rfl, hR6, B6⟩
              have HR6 : Hid (RS w6 base g l l1 p1 op ns ps vN vP) := Lib.hid hR6
              have HB6 := Lib.hid (HB5.out.trans B6)
              clear hR6 B6 HR5 HB5
              go_wp2_with fail
              cases h125 : Tr.nx 125 l1
              · have HI := is_any 125 HR6.out
                rw [h125] at HI
                replace HT : Hid (res = .no p1 8) := Lib.hid (HT.out.trans (by unfold Tr.brace; rw [h125]; rfl))
                clear h125
                refine HI.mono ?_
                rintro e z7 ⟨rfl, hR7, B7⟩
                have HR7 : Hid (RS z7 base g l l1 p1 op ns ps vN vP) := Lib.hid hR7
                have HB7 := Lib.hid (HB6.out.trans B7)
                clear hR7 B7 HR6 HB6
                have d1 := HR7.out.cells.2.1
                go_wp2_with fail
                refine (fails_any p1 8).mono ?_
                rintro e z8 ⟨rfl, B8⟩
                refine ⟨rfl, ?_⟩
                rw [HT.out]
                exact OutR.fail (HB7.out.trans (HR7.out.fr B8))
              · obtain ⟨t5, rfl⟩ := Tr.nx_cons h125
                have HI := is_any 125 HR6.out
                rw [h125] at HI
                replace HT : Hid (res = .ok (some (mn, mn)) t5 (p1 + 1)) := Lib.hid (HT.out.trans (by unfold Tr.brace; rw [h125]; rfl))
                clear h125
                refine HI.mono ?_
                rintro e z7 ⟨rfl, hR7, B7⟩
                have HZ : Hid (RS z7 base g l t5 (p1 + 1) op ns ps vN vP ∧ Bg g w z7) := Lib.hid ⟨hR7, HB6.out.trans B7⟩
                clear hR7 B7 HR6 HB6
                go_wp2_with fail
                rw [HT.out]
                exact bodyPost_ret (v := .tuple #[.int .i64 mn, .int .i64 mn, .bool true]) (by simp [results, Try.results30]) rfl ⟨rfl, HZ.out⟩
            · obtain ⟨l2, rfl⟩ := Tr.nx_cons h44
              have HI := is_any 44 HR5.out
              rw [h44] at HI HT
              replace HT : Hid (res = (Tr.digit l2 (p1 + 1)).bnd fun mx l2 p2 => if mx < mn then .no (p1 + 1) 8 else Tr.brace mn mx l2 p2) := HT
              clear h44
              refine HI.mono ?_
              rintro e w6 ⟨rfl, hR6, B6⟩
              have HR6 : Hid (RS w6 base g l l2 (p1 + 1) op ns ps vN vP) := Lib.hid hR6
              have HB6 := Lib.hid (HB5.out.trans B6)
              clear hR6 B6 HR5 HB5
              have d1 := HR6.out.cells.2.1
              go_wp2_with fail
              clear d1
              refine (digit_any HR6.out).mono ?_
              rintro e w7 hO
              cases hd : Tr.digit l2 (p1 + 1) with
              | no q x =>
                rw [hd] at hO HT
                obtain ⟨rfl, B7⟩ := hO
                refine ⟨rfl, ?_⟩
                rw [HT.out]
                exact OutR.fail (HB6.out.trans B7)
              | ok mx l3 p3 =>
                rw [hd] at hO HT
                obtain ⟨rfl, hR7, B7⟩ := hO
                have HR7 := Lib.hid hR7
                have HB7 := Lib.hid (HB6.out.trans B7)
                clear hR7 B7 HR6 HB6 hd
                replace HT : Hid (res = if mx < mn then .no (p1 + 1) 8 else Tr.brace mn mx l3 p3) := HT
                by_cases hlt : mx < mn
                · have hl2 : decide (mx < mn) = true := decide_eq_true hlt
                  replace HT : Hid (res = .no (p1 + 1) 8) := Lib.hid (HT.out.trans (if_pos hlt))
                  clear hlt
                  go_wp2_with fail
                  refine (fails_any (p1 + 1) 8).mono ?_
                  rintro e w8 ⟨rfl, B8⟩
                  refine ⟨rfl, ?_⟩
                  rw [HT.out]
                  exact OutR.fail (HB7.out.trans (HR7.out.fr B8))
                · have hl2 : decide (mx < mn) = false := decide_eq_false hlt
                  replace HT : Hid (res = Tr.brace mn mx l3 p3) := Lib.hid (HT.out.trans (if_neg hlt))
                  clear hlt
                  have HR6 := HR7
                  have HB6 := HB7
                  clear HR7 HB7
                  go_wp2_with fail
                  cases h125 : Tr.nx 125 l3
                  · have HI := is_any 125 HR6.out
                    rw [h125] at HI
                    replace HT : Hid (res = .no p3 8) := Lib.hid (HT.out.trans (by unfold Tr.brace; rw [h125]; rfl))
                    clear h125
                    refine HI.mono ?_
                    rintro e z7 ⟨rfl, hR7, B7⟩
                    have HR7 : Hid (RS z7 base g l l3 p3 op ns ps vN vP) := Lib.hid hR7
                    have HB7 := Lib.hid (HB6.out.trans B7)
                    clear hR7 B7 HR6 HB6
                    have d1 := HR7.out.cells.2.1
                    go_wp2_with fail
                    refine (fails_any p3 8).mono ?_
                    rintro e z8 ⟨rfl, B8⟩
                    refine ⟨rfl, ?_⟩
                    rw [HT.out]
                    exact OutR.fail (HB7.out.trans (HR7.out.fr B8))
                  · obtain ⟨t5, rfl⟩ := Tr.nx_cons h125
                    have HI := is_any 125 HR6.out
                    rw [h125] at HI
                    replace HT : Hid (res = .ok (some (mn, mx)) t5 (p3 + 1)) := Lib.hid (HT.out.trans (by unfold Tr.brace; rw [h125]; rfl))
                    clear h125
                    refine HI.mono ?_
                    rintro e z7 ⟨rfl, hR7, B7⟩
                    have HZ : Hid (RS z7 base g l t5 (p3 + 1) op ns ps vN vP ∧ Bg g w z7) := Lib.hid ⟨hR7, HB6.out.trans B7⟩
                    clear hR7 B7 HR6 HB6
                    go_wp2_with fail
                    rw [HT.out]
                    exact bodyPost_ret (v := .tuple #[.int .i64 mn, .int .i64 mx, .bool true]) (by simp [results, Try.results30]) rfl ⟨rfl, HZ.out⟩
      ·
        obtain ⟨t, rfl⟩ := Tr.nx_cons h63
        have HI := is_any 63 HR2.out
        rw [h63] at HI
        clear h63
        refine HI.mono ?_
        rintro e w3 ⟨rfl, hR, B⟩
        have HZ : Hid (RS w3 base g l t (p + 1) op ns ps vN vP ∧ Bg g w w3) := Lib.hid ⟨hR, HB2.out.trans B⟩
        clear hR B
        go_wp2_with fail
        rw [← HT.out]
        exact bodyPost_ret (v := .tuple #[.int .i64 0, .int .i64 1, .bool true]) (by simp [results, Try.results30]) rfl ⟨rfl, HZ.out⟩
    ·
      obtain ⟨t, rfl⟩ := Tr.nx_cons h43
      have HI := is_any 43 HR1.out
      rw [h43] at HI
      clear h43
      refine HI.mono ?_
      rintro e w2 ⟨rfl, hR, B⟩
      have HZ : Hid (RS w2 base g l t (p + 1) op ns ps vN vP ∧ Bg g w w2) := Lib.hid ⟨hR, HB1.out.trans B⟩
      clear hR B
      go_wp2_with fail
      rw [← HT.out]
      exact bodyPost_ret (v := .tuple #[.int .i64 1, .int .i64 (-1), .bool true]) (by simp [results, Try.results30]) rfl ⟨rfl, HZ.out⟩
  · have HB : Hid (Bg g w w) := Lib.hid (Bg.refl g w)
    obtain ⟨t, rfl⟩ := Tr.nx_cons h42
    have HI := is_any 42 H.out
    rw [h42] at HI
    clear h42
    refine HI.mono ?_
    rintro e w1 ⟨rfl, hR, B⟩
    have HZ : Hid (RS w1 base g l t (p + 1) op ns ps vN vP ∧ Bg g w w1) := Lib.hid ⟨hR, HB.out.trans B⟩
    clear hR B
    go_wp2_with fail
    rw [← HT.out]
    exact bodyPost_ret (v := .tuple #[.int .i64 0, .int .i64 (-1), .bool true]) (by simp [results, Try.results30]) rfl ⟨rfl, HZ.out⟩
end
end Go.Proofs.Ytebkaajnnjfhjaa
