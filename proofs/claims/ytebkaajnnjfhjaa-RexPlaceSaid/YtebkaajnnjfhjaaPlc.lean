/-
  RexPlace: walked.
-/
import Derived.Test.YtebkaajnnjfhjaaAwk7
import Derived.Test.YtebkaajnnjfhjaaLoc
import Derived.Deep.DeepCutAuto
namespace Go.Proofs.Ytebkaajnnjfhjaa
set_option linter.unusedVariables false
set_option linter.unusedSimpArgs false
open Go.RowKit Go.Proofs.YtebkaajnnjfhjaaW.PrintWords
open Tr (Nd Pt T R sz rootI post ndsL ptsL szL)

theorem parse_some (l : List UInt8) (hl : l.length ≤ 300) (w : World) : Calls Try.prog 5 #[.string ⟨l.toArray⟩] w fun e w' => (∃ (A A' : Option Addr) (n n' c c' : Nat) (a b : Int), e = .returned (.tuple #[.agg #[.slice A n c, .slice A' n' c'], .int .i64 a, .int .i64 b])) ∧ Below w.heap.size w w' := by
  refine (rparse_any l hl w).mono ?_
  rintro e w1 ⟨B1, hO⟩
  refine ⟨?_, B1⟩
  cases hres : Tr.rparse 600 l with
  | ok L r1 p1 =>
    rw [hres] at hO
    obtain ⟨A, A', c, c', rfl, hT, -⟩ := hO
    exact ⟨A, A', _, _, c, c', 0, 0, rfl⟩
  | no q x =>
    rw [hres] at hO
    exact ⟨none, none, 0, 0, 0, 0, q, x, hO⟩
theorem rparse_len {l : List UInt8} {L : List (Bool × T)} {r : List UInt8} {p : Nat} (h : Tr.rparse 600 l = .ok L r p) : 1 ≤ L.length := by
  unfold Tr.rparse at h
  by_cases h2 : 200 < l.length
  · rw [if_pos h2] at h; cases h
  · rw [if_neg h2] at h
    have := Tr.cons_ok 600 16 600 [] l 0 (by decide) (by simp)
    cases hc : Tr.cons 600 16 600 [] l 0 with
    | no q x => rw [hc] at h; cases h
    | ok L' r' p' =>
      rw [hc] at h this
      simp only [R.bnd] at h
      by_cases h6 : 63 < Tr.places (ndsL 0 L') (ptsL 0 L')
      · rw [if_pos h6] at h; cases h
      · rw [if_neg h6] at h
        injection h with h _ _
        rw [← h]; exact this.2.1
set_option maxRecDepth 100000 in
set_option maxHeartbeats 6400000 in
theorem place_any (l r : List UInt8) (w : World) : Calls Try.prog 4 #[.string ⟨l.toArray⟩, .string ⟨r.toArray⟩] w fun e w' => e = .returned (.bool true) ∧ Below w.heap.size w w' := by
  have hml : ∃ m : List UInt8, m.length ≤ 200 ∧ m = if 200 < l.length then l.take 200 else l := by
    refine ⟨_, ?_, rfl⟩
    split
    · simp; omega
    · omega
  obtain ⟨ml, hll, hel⟩ := hml
  have HEl := Lib.hid hel
  clear hel
  have hmr : ∃ m : List UInt8, m.length ≤ 100 ∧ m = if 100 < r.length then r.take 100 else r := by
    refine ⟨_, ?_, rfl⟩
    split
    · simp; omega
    · omega
  obtain ⟨mr, hlr, her⟩ := hmr
  have HEr := Lib.hid her
  clear her
  go_enter Try.func4, Try.ntmps4
  go_upto_if 13 with (fail)
  go_cut [0] (fun sx wx => sx = .string ⟨ml.toArray⟩ ∧ w = wx)
  case first =>
    go_wp2_with fail
    all_goals
      go_meet
      case rel =>
        refine ⟨?_, rfl⟩
        have hE := HEl.out
        by_cases hq : 200 < l.length
        · rw [if_pos hq] at hE
          first | (rw [hE]; done) | (exfalso; omega)
        · rw [if_neg hq] at hE
          first | (rw [hE]; done) | (exfalso; omega)
  obtain ⟨rfl, rfl⟩ := hcut
  go_upto_if 18 with (fail)
  go_cut [1] (fun sx wx => sx = .string ⟨mr.toArray⟩ ∧ w = wx)
  case first =>
    go_wp2_with fail
    all_goals
      go_meet
      case rel =>
        refine ⟨?_, rfl⟩
        have hE := HEr.out
        by_cases hq : 100 < r.length
        · rw [if_pos hq] at hE
          first | (rw [hE]; done) | (exfalso; omega)
        · rw [if_neg hq] at hE
          first | (rw [hE]; done) | (exfalso; omega)
  obtain ⟨rfl, rfl⟩ := hcut
  clear HEl HEr
  go_wp2_with fail
  refine (rparse_any ml (by omega) w).mono ?_
  rintro e w1 ⟨B1, hO⟩
  have HF := Tr.rparse_fin ml (by omega)
  cases hres : Tr.rparse 600 ml with
  | ok L r1 p1 =>
    rw [hres] at hO
    obtain ⟨A, A', c, c', rfl, hT, -⟩ := hO
    have hp0 : (0 : Int) < ((ptsL 0 L).length : Int) := by rw [Tr.ptsL_len]; have := rparse_len hres; omega
    have HB1 := Lib.hid B1
    clear hT HF hres B1
    go_wp2_with fail
    refine (rawake_any _).mono ?_
    rintro e wz ⟨rfl, Bz⟩
    have HZ := Lib.hid (bthen (show Below w.heap.size w _ from by (exact bthen HB1.out (by (repeat (first | exact Below.refl _ _ | assumption | refine Below.drew ?_ | refine Below.alloc ?_ (by first | exact Nat.le_refl _ | (simp; done) | (simp; omega) | omega) _ | refine Below.setCell ?_ (by first | exact Nat.le_refl _ | (simp; done) | (simp; omega) | omega) _))))) Bz)
    clear Bz
    go_wp2_with fail
    go_ret
    exact ⟨rfl, HZ.out⟩
  | no q x =>
    rw [hres] at hO HF
    subst hO
    obtain ⟨hx, hq⟩ := HF
    replace hq := hq hll
    have HB1 := Lib.hid B1
    clear B1
    have HRS := Lib.hid hres
    clear hres
    by_cases hqe : q = ml.length
    · have e1 : ((q : Int) == ml.length) = true := by rw [hqe]; simp
      have e2 : decide ((ml.length : Int) < q) = false := decide_eq_false (by omega)
      have e2n : decide (ml.length < q) = false := decide_eq_false (by omega)
      have e2m : ¬ ml.length < q := by omega
      clear hq hqe
      rcases hx with rfl | rfl
      all_goals
        go_wp2_with fail
        refine (rawake_any _).mono ?_
        rintro e wz ⟨rfl, Bz⟩
        have HZ := Lib.hid (bthen (show Below w.heap.size w _ from by (exact bthen HB1.out (by (repeat (first | exact Below.refl _ _ | assumption | refine Below.drew ?_ | refine Below.alloc ?_ (by first | exact Nat.le_refl _ | (simp; done) | (simp; omega) | omega) _ | refine Below.setCell ?_ (by first | exact Nat.le_refl _ | (simp; done) | (simp; omega) | omega) _))))) Bz)
        clear Bz
        go_wp2_with fail
        go_ret
        exact ⟨rfl, HZ.out⟩
    · have hlt : q < ml.length := by omega
      have e1 : ((q : Int) == ml.length) = false := by simp; omega
      have e2 : decide ((ml.length : Int) < q) = false := decide_eq_false (by omega)
      have e2n : decide (ml.length < q) = false := decide_eq_false (by omega)
      have e2m : ¬ ml.length < q := by omega
      have e3 : (q : Int) < ml.length := by omega
      have e4 : (0 : Int) ≤ q := by omega
      have w1' : IntKind.i64.wrap ((q : Int) + 1) = (q : Int) + 1 := IntWalk.i64_in _ (by omega)
      have w2' : IntKind.i64.wrap ((q : Int) + 1 + mr.length) = (q : Int) + 1 + mr.length := IntWalk.i64_in _ (by omega)
      have HLT := Lib.hid (And.intro hlt (And.intro hll hlr))
      clear hq hqe
      cases h92 : ml[q] == (92 : UInt8)
      · have t92 : ((ml[q].toNat : Int) == 92) = false := by have := u8_beq ml[q] 92; rw [h92] at this; exact this
        have H92 : Hid (ml[q]? ≠ some 92) := Lib.hid (by rw [List.getElem?_eq_getElem hlt]; intro e; injection e with e; rw [e] at h92; cases h92)
        clear h92
        by_cases hsum : 200 < q + 1 + mr.length
        · have e5 : decide ((200 : Int) < (q : Int) + 1 + mr.length) = true := decide_eq_true (by omega)
          clear hsum
          rcases hx with rfl | rfl
          all_goals
            go_wp2_with fail
            refine (rawake_any _).mono ?_
            rintro e wz ⟨rfl, Bz⟩
            have HZ := Lib.hid (bthen (show Below w.heap.size w _ from by (exact bthen HB1.out (by (repeat (first | exact Below.refl _ _ | assumption | refine Below.drew ?_ | refine Below.alloc ?_ (by first | exact Nat.le_refl _ | (simp; done) | (simp; omega) | omega) _ | refine Below.setCell ?_ (by first | exact Nat.le_refl _ | (simp; done) | (simp; omega) | omega) _))))) Bz)
            clear Bz
            go_wp2_with fail
            go_ret
            exact ⟨rfl, HZ.out⟩
        · have e5 : decide ((200 : Int) < (q : Int) + 1 + mr.length) = false := decide_eq_false (by omega)
          have e6 : ¬ (9223372036854775807 < (ml.take (q + 1)).length + mr.length) := by simp; omega
          have e7 : (q : Int) + 1 ≤ ml.length := by omega
          have e8 : (0 : Int) ≤ (q : Int) + 1 := by omega
          have HSM := Lib.hid hsum
          clear hsum
          rcases hx with rfl | rfl
          all_goals
            go_wp2_with fail
            by_cases hdg : 48 ≤ ml[q].toNat ∧ ml[q].toNat ≤ 57
            · have d1 : decide ((48 : Int) ≤ ml[q].toNat) = true := decide_eq_true (by omega)
              have d2 : decide ((ml[q].toNat : Int) ≤ 57) = true := decide_eq_true (by omega)
              clear hdg
              refine (parse_some _ (by simp; omega) _).mono ?_
              rintro e w2 ⟨⟨A, A', n, n', c, c', a, b, rfl⟩, B2⟩
              have HB2 := Lib.hid (bthen (show Below w.heap.size w _ from bthen HB1.out (by (repeat (first | exact Below.refl _ _ | assumption | refine Below.drew ?_ | refine Below.alloc ?_ (by first | exact Nat.le_refl _ | (simp; done) | (simp; omega) | omega) _ | refine Below.setCell ?_ (by first | exact Nat.le_refl _ | (simp; done) | (simp; omega) | omega) _)))) B2)
              clear B2
              go_wp2_with fail
              refine (rawake_any _).mono ?_
              rintro e wz ⟨rfl, Bz⟩
              have HZ := Lib.hid (bthen (show Below w.heap.size w _ from by (exact bthen HB2.out (by (repeat (first | exact Below.refl _ _ | assumption | refine Below.drew ?_ | refine Below.alloc ?_ (by first | exact Nat.le_refl _ | (simp; done) | (simp; omega) | omega) _ | refine Below.setCell ?_ (by first | exact Nat.le_refl _ | (simp; done) | (simp; omega) | omega) _))))) Bz)
              clear Bz
              go_wp2_with fail
              go_ret
              exact ⟨rfl, HZ.out⟩
            · have HDG := Lib.hid hdg
              have dd : (decide ((48 : Int) ≤ ml[q].toNat) = true ∧ decide ((ml[q].toNat : Int) ≤ 57) = false) ∨ decide ((48 : Int) ≤ ml[q].toNat) = false := by
                by_cases h : 48 ≤ ml[q].toNat
                · exact .inl ⟨decide_eq_true (by omega), decide_eq_false (by omega)⟩
                · exact .inr (decide_eq_false (by omega))
              clear hdg
              by_cases h45 : 0 < q ∧ ml[q - 1]? = some 45
              · obtain ⟨h0, h45⟩ := h45
                obtain ⟨k, rfl⟩ : ∃ k, q = k + 1 := ⟨q - 1, by omega⟩
                rw [Nat.add_sub_cancel] at h45
                obtain ⟨hk, hk2⟩ := List.getElem?_eq_some_iff.1 h45
                have d3 : (0 : Int) < ((k + 1 : Nat) : Int) := by omega
                have d3n : decide ((0 : Int) < ((k + 1 : Nat) : Int)) = true := decide_eq_true d3
                have d4 : ((ml[k].toNat : Int) == 45) = true := by rw [hk2]; rfl
                have d5 : IntKind.i64.wrap (((k + 1 : Nat) : Int) - 1) = (k : Int) := by rw [IntWalk.i64_in _ (by omega)]; omega
                have d6 : (k : Int) < ml.length := by omega
                have d7 : (0 : Int) ≤ (k : Int) := by omega
                clear h45 hk2 h0
                rcases dd with ⟨d1, d2⟩ | d1
                all_goals
                  refine (parse_some _ (by simp; omega) _).mono ?_
                  rintro e w2 ⟨⟨A, A', n, n', c, c', a, b, rfl⟩, B2⟩
                  have HB2 := Lib.hid (bthen (show Below w.heap.size w _ from bthen HB1.out (by (repeat (first | exact Below.refl _ _ | assumption | refine Below.drew ?_ | refine Below.alloc ?_ (by first | exact Nat.le_refl _ | (simp; done) | (simp; omega) | omega) _ | refine Below.setCell ?_ (by first | exact Nat.le_refl _ | (simp; done) | (simp; omega) | omega) _)))) B2)
                  clear B2
                  go_wp2_with fail
                  refine (rawake_any _).mono ?_
                  rintro e wz ⟨rfl, Bz⟩
                  have HZ := Lib.hid (bthen (show Below w.heap.size w _ from by (exact bthen HB2.out (by (repeat (first | exact Below.refl _ _ | assumption | refine Below.drew ?_ | refine Below.alloc ?_ (by first | exact Nat.le_refl _ | (simp; done) | (simp; omega) | omega) _ | refine Below.setCell ?_ (by first | exact Nat.le_refl _ | (simp; done) | (simp; omega) | omega) _))))) Bz)
                  clear Bz
                  go_wp2_with fail
                  go_ret
                  exact ⟨rfl, HZ.out⟩
              · have hloc := Tr.rparse_loc (b := mr) HLT.out.2.1 HRS.out HLT.out.1 H92.out (fun c hc => by rw [List.getElem?_eq_getElem HLT.out.1] at hc; injection hc with hc; rw [← hc]; exact HDG.out) (fun h0 e => h45 ⟨h0, e⟩) (by have := HSM.out; omega)
                have HLO := Lib.hid hloc
                clear hloc
                have ee : decide ((0 : Int) < (q : Int)) = false ∨ (∃ k, q = k + 1 ∧ ∃ h : k < ml.length, ml[k] ≠ 45) := by
                  by_cases h0 : 0 < q
                  · refine .inr ⟨q - 1, by omega, by omega, fun e => h45 ⟨h0, by rw [List.getElem?_eq_getElem (by omega), e]⟩⟩
                  · exact .inl (decide_eq_false (by omega))
                clear h45
                rcases ee with f1 | ⟨k, rfl, hk, hk45⟩
                · have f2 : decide (0 < q) = false := by have := of_decide_eq_false f1; exact decide_eq_false (by omega)
                  have f3 : ¬ 0 < q := of_decide_eq_false f2
                  rcases dd with ⟨d1, d2⟩ | d1
                  all_goals
                    refine (parse_no _ _ _ (by simp; omega) HLO.out _).mono ?_
                    rintro e w2 ⟨rfl, B2⟩
                    have HB2 := Lib.hid (bthen (show Below w.heap.size w _ from bthen HB1.out (by (repeat (first | exact Below.refl _ _ | assumption | refine Below.drew ?_ | refine Below.alloc ?_ (by first | exact Nat.le_refl _ | (simp; done) | (simp; omega) | omega) _ | refine Below.setCell ?_ (by first | exact Nat.le_refl _ | (simp; done) | (simp; omega) | omega) _)))) B2)
                    clear B2
                    go_wp2_with fail
                    refine (rawake_any _).mono ?_
                    rintro e wz ⟨rfl, Bz⟩
                    have HZ := Lib.hid (bthen (show Below w.heap.size w _ from by (exact bthen HB2.out (by (repeat (first | exact Below.refl _ _ | assumption | refine Below.drew ?_ | refine Below.alloc ?_ (by first | exact Nat.le_refl _ | (simp; done) | (simp; omega) | omega) _ | refine Below.setCell ?_ (by first | exact Nat.le_refl _ | (simp; done) | (simp; omega) | omega) _))))) Bz)
                    clear Bz
                    go_wp2_with fail
                    go_ret
                    exact ⟨rfl, HZ.out⟩
                · have d3 : (0 : Int) < ((k + 1 : Nat) : Int) := by omega
                  have d3n : decide ((0 : Int) < ((k + 1 : Nat) : Int)) = true := decide_eq_true d3
                  have d4 : ((ml[k].toNat : Int) == 45) = false := by
                    have := u8_beq ml[k] 45
                    rw [show (ml[k] == 45) = false by simpa using hk45] at this
                    exact this
                  have d5 : IntKind.i64.wrap (((k + 1 : Nat) : Int) - 1) = (k : Int) := by rw [IntWalk.i64_in _ (by omega)]; omega
                  have d6 : (k : Int) < ml.length := by omega
                  have d7 : (0 : Int) ≤ (k : Int) := by omega
                  clear hk45
                  rcases dd with ⟨d1, d2⟩ | d1
                  all_goals
                    refine (parse_no _ _ _ (by simp; omega) HLO.out _).mono ?_
                    rintro e w2 ⟨rfl, B2⟩
                    have HB2 := Lib.hid (bthen (show Below w.heap.size w _ from bthen HB1.out (by (repeat (first | exact Below.refl _ _ | assumption | refine Below.drew ?_ | refine Below.alloc ?_ (by first | exact Nat.le_refl _ | (simp; done) | (simp; omega) | omega) _ | refine Below.setCell ?_ (by first | exact Nat.le_refl _ | (simp; done) | (simp; omega) | omega) _)))) B2)
                    clear B2
                    go_wp2_with fail
                    refine (rawake_any _).mono ?_
                    rintro e wz ⟨rfl, Bz⟩
                    have HZ := Lib.hid (bthen (show Below w.heap.size w _ from by (exact bthen HB2.out (by (repeat (first | exact Below.refl _ _ | assumption | refine Below.drew ?_ | refine Below.alloc ?_ (by first | exact Nat.le_refl _ | (simp; done) | (simp; omega) | omega) _ | refine Below.setCell ?_ (by first | exact Nat.le_refl _ | (simp; done) | (simp; omega) | omega) _))))) Bz)
                    clear Bz
                    go_wp2_with fail
                    go_ret
                    exact ⟨rfl, HZ.out⟩
      · have t92 : ((ml[q].toNat : Int) == 92) = true := by have := u8_beq ml[q] 92; rw [h92] at this; exact this
        clear h92
        rcases hx with rfl | rfl
        all_goals
          go_wp2_with fail
          refine (rawake_any _).mono ?_
          rintro e wz ⟨rfl, Bz⟩
          have HZ := Lib.hid (bthen (show Below w.heap.size w _ from by (exact bthen HB1.out (by (repeat (first | exact Below.refl _ _ | assumption | refine Below.drew ?_ | refine Below.alloc ?_ (by first | exact Nat.le_refl _ | (simp; done) | (simp; omega) | omega) _ | refine Below.setCell ?_ (by first | exact Nat.le_refl _ | (simp; done) | (simp; omega) | omega) _))))) Bz)
          clear Bz
          go_wp2_with fail
          go_ret
          exact ⟨rfl, HZ.out⟩
theorem place_str (a : ByteArray) (ha : a.size ≤ maxLen) (b : ByteArray) (hb : b.size ≤ maxLen) (w : World) : Calls Try.prog 4 #[.string a, .string b] w fun e w' => e = .returned (.bool true) ∧ Below w.heap.size w w' := by
  rw [str_eq a, str_eq b]
  exact place_any _ _ w
end Go.Proofs.Ytebkaajnnjfhjaa
