/-
  The reader's escape: walked.
-/
import Derived.Test.YtebkaajnnjfhjaaVal
namespace Go.Proofs.Ytebkaajnnjfhjaa
set_option linter.unusedVariables false
set_option linter.unusedSimpArgs false
open Go.RowKit Go.Proofs.YtebkaajnnjfhjaaW.PrintWords
open Tr (Nd Pt T R sz rootI post)

theorem hx_or : ∀ m n : Fin 16, bits BinOp.or IntKind.u8 ((m.val : Int) * 16 % 256) (n.val : Int) = ((UInt8.ofNat (16 * m.val + n.val)).toNat : Int) := by decide
theorem hv_lt (c : UInt8) : ∀ n, Tr.hv c = some n → n < 16 := by
  intro n h
  unfold Tr.hv at h
  split at h
  · injection h; omega
  · split at h
    · injection h; omega
    · split at h
      · injection h; omega
      · cases h
section
variable {w0 w : World} {base g : Nat} {l r : List UInt8} {p op : Nat} {ns : List Nd} {ps : List Pt} {vN vP : Value}
set_option maxHeartbeats 3200000 in
theorem escape_any (pl : Nat) (of : List UInt8) (h : RS w base g l r p op ns ps vN vP) : Calls Try.prog 36 #[.pointer (some ⟨g, 0, none⟩), .int .i64 pl, .string ⟨of.toArray⟩] w (OutR w base g l op ns ps vN vP (fun x : UInt8 => .int .u8 x.toNat) (Tr.esc pl of r p)) := by
  have H := Lib.hid h
  have HI := Lib.hid (fun (c : UInt8) (z : World) => rixb_any c of z)
  have hdr := h.dr
  have hpl := h.pl
  obtain ⟨c0, c1, c2, c3, c4⟩ := h.cells
  have f1 := h.ice 1
  have hll := h.ll
  have hb1 : (0 : Int) ≤ p ∧ (p : Int) ≤ (l.length : Int) := ⟨by omega, by omega⟩
  obtain ⟨hb2, hb3⟩ := hb1
  have W1 : IntKind.i64.wrap ((p : Int) + 1) = (p : Int) + 1 := IntWalk.i64_in _ (by omega)
  have W3 : IntKind.i64.wrap ((p : Int) + 3) = (p : Int) + 3 := IntWalk.i64_in _ (by omega)
  have htk : List.take (l.length - p) r = r := List.take_of_length_le (by omega)
  clear h hll
  rcases r with _ | ⟨c, r⟩
  · go_enter Try.func36, Try.ntmps36
    go_wp2_with fail
    go_quiet (fail)
    go_wp2_with fail
    refine (fails_any pl 8).mono ?_
    rintro e w2 ⟨rfl, B2⟩
    exact ⟨rfl, rfl, H.out.fr (bthen (by (repeat (first | (with_reducible exact Below.refl _ _) | (with_reducible refine Below.drew ?_) | (with_reducible refine rx_drewN ?_ _) | ((with_reducible apply bthen); rotate_left; assumption)))) B2)⟩
  · simp only [List.length_cons] at hpl
    have e_ok : of.contains c = true → Tr.esc pl of (c :: r) p = .ok c r (p + 1) := fun hc => by unfold Tr.esc; simp only [hc, if_true]
    have e_no : of.contains c = false → Tr.hx2 (c :: r) = none → Tr.esc pl of (c :: r) p = .no pl 8 := fun hc hh => by unfold Tr.esc; simp only [hc, hh]; rfl
    have e_hx : ∀ x, of.contains c = false → Tr.hx2 (c :: r) = some x → Tr.esc pl of (c :: r) p = .ok x (r.drop 2) (p + 3) := fun x hc hh => by unfold Tr.esc; simp only [hc, hh]; rfl
    have EO := Lib.hid e_ok
    have EN := Lib.hid e_no
    have EX := Lib.hid e_hx
    clear e_ok e_no e_hx
    cases hc : of.contains c
    · have HC := Lib.hid hc
      cases hx : c == (120 : UInt8)
      · have ER : Hid (Tr.esc pl of (c :: r) p = .no pl 8) := Lib.hid (EN.out hc (by unfold Tr.hx2; rcases r with _ | ⟨a, _ | ⟨b, r⟩⟩ <;> simp; intro e; subst e; simp at hx))
        have hx' : ((c.toNat : Int) == 120) = false := by have := u8_beq c 120; rw [hx] at this; exact this
        rw [ER.out]
        clear hx
        by_cases hr : 2 ≤ r.length
        · have h3 : decide ((3 : Int) ≤ (r.length : Int) + 1) = true := decide_eq_true (by omega)
          go_enter Try.func36, Try.ntmps36
          go_wp2_with fail
          go_quiet (fail)
          go_wp2_with fail
          refine (HI.out _ _).mono ?_
          rintro e w1 ⟨i, rfl, hi, rfl⟩
          rw [HC.out] at hi
          go_wp2_with fail
          refine (fails_any pl 8).mono ?_
          rintro e w2 ⟨rfl, B2⟩
          exact ⟨rfl, rfl, H.out.fr (bthen (by (repeat (first | (with_reducible exact Below.refl _ _) | (with_reducible refine Below.drew ?_) | (with_reducible refine rx_drewN ?_ _) | ((with_reducible apply bthen); rotate_left; assumption)))) B2)⟩
        · have h3 : decide ((3 : Int) ≤ (r.length : Int) + 1) = false := decide_eq_false (by omega)
          go_enter Try.func36, Try.ntmps36
          go_wp2_with fail
          go_quiet (fail)
          go_wp2_with fail
          refine (HI.out _ _).mono ?_
          rintro e w1 ⟨i, rfl, hi, rfl⟩
          rw [HC.out] at hi
          go_wp2_with fail
          refine (fails_any pl 8).mono ?_
          rintro e w2 ⟨rfl, B2⟩
          exact ⟨rfl, rfl, H.out.fr (bthen (by (repeat (first | (with_reducible exact Below.refl _ _) | (with_reducible refine Below.drew ?_) | (with_reducible refine rx_drewN ?_ _) | ((with_reducible apply bthen); rotate_left; assumption)))) B2)⟩
      · have hcx : c = 120 := by simpa using hx
        have hx' : ((c.toNat : Int) == 120) = true := by rw [hcx]; rfl
        have HX := Lib.hid hcx
        clear hx hcx
        rcases r with _ | ⟨a, _ | ⟨b, r⟩⟩
        · have ER : Hid (Tr.esc pl of [c] p = .no pl 8) := Lib.hid (EN.out hc (by rw [HX.out]; rfl))
          rw [ER.out]
          go_enter Try.func36, Try.ntmps36
          go_wp2_with fail
          go_quiet (fail)
          go_wp2_with fail
          refine (HI.out _ _).mono ?_
          rintro e w1 ⟨i, rfl, hi, rfl⟩
          rw [HC.out] at hi
          go_wp2_with fail
          refine (fails_any pl 8).mono ?_
          rintro e w2 ⟨rfl, B2⟩
          exact ⟨rfl, rfl, H.out.fr (bthen (by (repeat (first | (with_reducible exact Below.refl _ _) | (with_reducible refine Below.drew ?_) | (with_reducible refine rx_drewN ?_ _) | ((with_reducible apply bthen); rotate_left; assumption)))) B2)⟩
        · have ER : Hid (Tr.esc pl of [c, a] p = .no pl 8) := Lib.hid (EN.out hc (by rw [HX.out]; rfl))
          rw [ER.out]
          go_enter Try.func36, Try.ntmps36
          go_wp2_with fail
          go_quiet (fail)
          go_wp2_with fail
          refine (HI.out _ _).mono ?_
          rintro e w1 ⟨i, rfl, hi, rfl⟩
          rw [HC.out] at hi
          go_wp2_with fail
          refine (fails_any pl 8).mono ?_
          rintro e w2 ⟨rfl, B2⟩
          exact ⟨rfl, rfl, H.out.fr (bthen (by (repeat (first | (with_reducible exact Below.refl _ _) | (with_reducible refine Below.drew ?_) | (with_reducible refine rx_drewN ?_ _) | ((with_reducible apply bthen); rotate_left; assumption)))) B2)⟩
        · simp only [List.length_cons] at hpl
          have h3 : decide ((3 : Int) ≤ (r.length : Int) + 1 + 1 + 1) = true := decide_eq_true (by omega)
          have e2a : Tr.hv a = none → Tr.hx2 (c :: a :: b :: r) = none := fun h => by rw [HX.out]; unfold Tr.hx2; simp only [if_true, h]
          have e2b : Tr.hv b = none → Tr.hx2 (c :: a :: b :: r) = none := fun h => by rw [HX.out]; unfold Tr.hx2; simp only [if_true, h]; cases Tr.hv a <;> rfl
          have e2 : ∀ m n, Tr.hv a = some m → Tr.hv b = some n → Tr.hx2 (c :: a :: b :: r) = some (UInt8.ofNat (16 * m + n)) := fun m n h h' => by rw [HX.out]; unfold Tr.hx2; simp only [if_true, h, h']
          have HVa := Lib.hid (fun z => value_any a z)
          have HVb := Lib.hid (fun z => value_any b z)
          have bda := hv_lt a
          have bdb := hv_lt b
          cases ha : Tr.hv a with
          | none =>
            rw [ha] at HVa
            have ER : Hid (Tr.esc pl of (c :: a :: b :: r) p = .no pl 8) := Lib.hid (EN.out hc (e2a ha))
            rw [ER.out]
            clear bda bdb e2 e2a e2b
            go_enter Try.func36, Try.ntmps36
            go_wp2_with fail
            go_quiet (fail)
            go_wp2_with fail
            refine (HI.out _ _).mono ?_
            rintro e w1 ⟨i, rfl, hi, rfl⟩
            rw [HC.out] at hi
            go_wp2_with fail
            refine (HVa.out _).mono ?_
            rintro e w1 ⟨rfl, rfl⟩
            go_wp2_with fail
            refine (HVb.out _).mono ?_
            rintro e w1 ⟨rfl, rfl⟩
            go_wp2_with fail
            refine (fails_any pl 8).mono ?_
            rintro e w2 ⟨rfl, B2⟩
            exact ⟨rfl, rfl, H.out.fr (bthen (by (repeat (first | (with_reducible exact Below.refl _ _) | (with_reducible refine Below.drew ?_) | (with_reducible refine rx_drewN ?_ _) | ((with_reducible apply bthen); rotate_left; assumption)))) B2)⟩
          | some m =>
            rw [ha] at HVa
            cases hb : Tr.hv b with
            | none =>
              rw [hb] at HVb
              have ER : Hid (Tr.esc pl of (c :: a :: b :: r) p = .no pl 8) := Lib.hid (EN.out hc (e2b hb))
              rw [ER.out]
              clear bda bdb e2 e2a e2b
              go_enter Try.func36, Try.ntmps36
              go_wp2_with fail
              go_quiet (fail)
              go_wp2_with fail
              refine (HI.out _ _).mono ?_
              rintro e w1 ⟨i, rfl, hi, rfl⟩
              rw [HC.out] at hi
              go_wp2_with fail
              refine (HVa.out _).mono ?_
              rintro e w1 ⟨rfl, rfl⟩
              go_wp2_with fail
              refine (HVb.out _).mono ?_
              rintro e w1 ⟨rfl, rfl⟩
              go_wp2_with fail
              refine (fails_any pl 8).mono ?_
              rintro e w2 ⟨rfl, B2⟩
              exact ⟨rfl, rfl, H.out.fr (bthen (by (repeat (first | (with_reducible exact Below.refl _ _) | (with_reducible refine Below.drew ?_) | (with_reducible refine rx_drewN ?_ _) | ((with_reducible apply bthen); rotate_left; assumption)))) B2)⟩
            | some n =>
              rw [hb] at HVb
              have ER : Hid (Tr.esc pl of (c :: a :: b :: r) p = .ok (UInt8.ofNat (16 * m + n)) r (p + 3)) := Lib.hid (EX.out _ hc (e2 m n ha hb))
              rw [ER.out]
              replace bda := bda m ha
              replace bdb := bdb n hb
              clear e2 e2a e2b
              have HBD := Lib.hid (And.intro bda bdb)
              clear bda bdb
              go_enter Try.func36, Try.ntmps36
              go_wp2_with fail
              go_quiet (fail)
              go_wp2_with fail
              refine (HI.out _ _).mono ?_
              rintro e w1 ⟨i, rfl, hi, rfl⟩
              rw [HC.out] at hi
              go_wp2_with fail
              refine (HVa.out _).mono ?_
              rintro e w1 ⟨rfl, rfl⟩
              go_wp2_with fail
              refine (HVb.out _).mono ?_
              rintro e w1 ⟨rfl, rfl⟩
              go_wp2_with fail
              go_ret
              refine ⟨ret_int (hx_or ⟨m, HBD.out.1⟩ ⟨n, HBD.out.2⟩), ?_, ?_⟩
              · have := (H.out.below (w' := w.drewN nq) (by (repeat (first | (with_reducible exact Below.refl _ _) | (with_reducible refine Below.drew ?_) | (with_reducible refine rx_drewN ?_ _) | ((with_reducible apply bthen); rotate_left; assumption))))).at_ 3 (by simp)
                simpa using this
              · exact (H.out.fr (by (repeat (first | (with_reducible exact Below.refl _ _) | (with_reducible refine Below.drew ?_) | (with_reducible refine rx_drewN ?_ _) | ((with_reducible apply bthen); rotate_left; assumption))))).set 1 _
    · have HC := Lib.hid hc
      rw [EO.out hc]
      go_enter Try.func36, Try.ntmps36
      go_wp2_with fail
      go_quiet (fail)
      go_wp2_with fail
      refine (HI.out c _).mono ?_
      rintro e w1 ⟨i, rfl, hi, rfl⟩
      rw [HC.out] at hi
      go_wp2_with fail
      go_ret
      refine ⟨rfl, ?_, ?_⟩
      · have := (H.out.below (w' := w.drewN nq) (by (repeat (first | (with_reducible exact Below.refl _ _) | (with_reducible refine Below.drew ?_) | (with_reducible refine rx_drewN ?_ _) | ((with_reducible apply bthen); rotate_left; assumption))))).at_ 1 (by simp)
        simpa using this
      · exact (H.out.fr (by (repeat (first | (with_reducible exact Below.refl _ _) | (with_reducible refine Below.drew ?_) | (with_reducible refine rx_drewN ?_ _) | ((with_reducible apply bthen); rotate_left; assumption))))).set 1 _
end
end Go.Proofs.Ytebkaajnnjfhjaa
