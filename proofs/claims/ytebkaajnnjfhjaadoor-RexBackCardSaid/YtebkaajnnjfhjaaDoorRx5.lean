/-
  strings.IndexByte in a list's words; percent.Value.
-/
import Derived.Test.YtebkaajnnjfhjaaDoorRx3
import Derived.Test.YtebkaajnnjfhjaaDoorShf
namespace Go.Proofs.YtebkaajnnjfhjaaDoor
set_option linter.unusedVariables false
set_option linter.unusedSimpArgs false
open Go.RowKit Go.Proofs.YtebkaajnnjfhjaaDoorW.PrintWords

theorem rixb_neg (l : List UInt8) (c : UInt8) : -1 ≤ Lib.indexByte l c ∧ (decide (0 ≤ Lib.indexByte l c) = l.contains c) := by
  induction l with
  | nil => exact ⟨Int.le_refl _, rfl⟩
  | cons b l ih =>
    obtain ⟨h1, h2⟩ := ih
    rw [Lib.indexByte, List.contains_cons]
    by_cases hb : b = c
    · subst hb
      simp
    · have e1 : (b == c) = false := by simpa using hb
      have e2 : (c == b) = false := by simpa using fun e : c = b => hb e.symm
      rw [e1, e2]
      simp only [Bool.false_eq_true, if_false, Bool.false_or]
      rw [← h2]
      split
      · rename_i h
        rw [beq_iff_eq] at h
        rw [h]
        exact ⟨by omega, by decide⟩
      · rename_i h
        have h' : ¬ Lib.indexByte l c = -1 := by simpa using h
        refine ⟨by omega, ?_⟩
        congr 1
        simp only [eq_iff_iff]
        omega
theorem rixb_any (c : UInt8) (l : List UInt8) (w : World) : Calls Tryd.prog 71 #[.string ⟨l.toArray⟩, .int .u8 c.toNat] w fun e w' => ∃ i : Int, e = .returned (.int .i64 i) ∧ decide (0 ≤ i) = l.contains c ∧ w = w' := by
  refine (Tryd.strings_IndexByte ⟨l.toArray⟩ c.toNat w).mono ?_
  rintro e w1 ⟨rfl, rfl⟩
  have e1 : ((c.toNat : Int)).toNat.toUInt8 = c := by rw [Int.toNat_natCast]; exact UInt8.ofNat_toNat
  refine ⟨_, rfl, ?_, rfl⟩
  rw [e1]
  exact (rixb_neg l c).2

set_option maxHeartbeats 800000 in
theorem value_any (c : UInt8) (w : World) : Calls Tryd.prog 93 #[.int .u8 c.toNat] w fun e w' => e = .returned (.tuple #[.int .u8 ((Tr.hv c).getD 0 : Nat), .bool (Tr.hv c).isSome]) ∧ w = w' := by
  have hc := c.toNat_lt
  by_cases h1 : 48 ≤ c.toNat ∧ c.toNat ≤ 57
  · have e : Hid (Tr.hv c = some (c.toNat - 48)) := Lib.hid (by unfold Tr.hv; rw [if_pos h1])
    rw [e.out]
    go_enter Tryd.func93, Tryd.ntmps93
    go_wp2
    all_goals first | omega | skip
    all_goals go_ret2
    all_goals refine ⟨?_, rfl⟩
    all_goals simp
    all_goals omega
  · by_cases h2 : 97 ≤ c.toNat ∧ c.toNat ≤ 102
    · have e : Hid (Tr.hv c = some (c.toNat - 87)) := Lib.hid (by unfold Tr.hv; rw [if_neg h1, if_pos h2])
      rw [e.out]
      go_enter Tryd.func93, Tryd.ntmps93
      go_wp2
      all_goals first | omega | skip
      all_goals go_ret2
      all_goals refine ⟨?_, rfl⟩
      all_goals simp
      all_goals omega
    · by_cases h3 : 65 ≤ c.toNat ∧ c.toNat ≤ 70
      · have e : Hid (Tr.hv c = some (c.toNat - 55)) := Lib.hid (by unfold Tr.hv; rw [if_neg h1, if_neg h2, if_pos h3])
        rw [e.out]
        go_enter Tryd.func93, Tryd.ntmps93
        go_wp2
        all_goals first | omega | skip
        all_goals go_ret2
        all_goals refine ⟨?_, rfl⟩
        all_goals simp
        all_goals omega
      · have e : Hid (Tr.hv c = none) := Lib.hid (by unfold Tr.hv; rw [if_neg h1, if_neg h2, if_neg h3])
        rw [e.out]
        go_enter Tryd.func93, Tryd.ntmps93
        go_wp2
        all_goals first | omega | skip
        all_goals go_ret2
        all_goals refine ⟨?_, rfl⟩
        all_goals simp
end Go.Proofs.YtebkaajnnjfhjaaDoor
namespace Go.Proofs.YtebkaajnnjfhjaaDoor
set_option linter.unusedVariables false
set_option linter.unusedSimpArgs false
open Go.RowKit Go.Proofs.YtebkaajnnjfhjaaDoorW.PrintWords
open Tr (Nd Pt T R sz rootI post)

theorem hx_or : ∀ m n : Fin 16, bits BinOp.or IntKind.u8 ((m.val : Int) * 16 % 256) (n.val : Int) = ((UInt8.ofNat (16 * m.val + n.val)).toNat : Int) := by decide
theorem hv_lt (c : UInt8) : ∀ n, Tr.hv c = some n → n < 16 := by
  intro n h
  unfold Tr.hv at h
  split at h
  · injection h; omega
  · split at h
    · injection h; omega
    · split at h
      · injection h; omega
      · cases h
section
variable {w0 w : World} {base g : Nat} {l r : List UInt8} {p op : Nat} {ns : List Nd} {ps : List Pt} {vN vP : Value}
set_option maxHeartbeats 3200000 in
theorem escape_any (pl : Nat) (of : List UInt8) (h : RS w base g l r p op ns ps vN vP) : Calls Tryd.prog 83 #[.pointer (some ⟨g, 0, none⟩), .int .i64 pl, .string ⟨of.toArray⟩] w (OutR w base g l op ns ps vN vP (fun x : UInt8 => .int .u8 x.toNat) (Tr.esc pl of r p)) := by
  have H := Lib.hid h
  have HI := Lib.hid (fun (c : UInt8) (z : World) => rixb_any c of z)
  have hdr := h.dr
  have hpl := h.pl
  obtain ⟨c0, c1, c2, c3, c4⟩ := h.cells
  have f1 := h.ice 1
  have hll := h.ll
  have hb1 : (0 : Int) ≤ p ∧ (p : Int) ≤ (l.length : Int) := ⟨by omega, by omega⟩
  obtain ⟨hb2, hb3⟩ := hb1
  have W1 : IntKind.i64.wrap ((p : Int) + 1) = (p : Int) + 1 := IntWalk.i64_in _ (by omega)
  have W3 : IntKind.i64.wrap ((p : Int) + 3) = (p : Int) + 3 := IntWalk.i64_in _ (by omega)
  have htk : List.take (l.length - p) r = r := List.take_of_length_le (by omega)
  clear h hll
  rcases r with _ | ⟨c, r⟩
  · go_enter Tryd.func83, Tryd.ntmps83
    go_wp2_with fail
    go_quiet (fail)
    go_wp2_with fail
    refine (fails_any pl 8).mono ?_
    rintro e w2 ⟨rfl, B2⟩
    exact ⟨rfl, rfl, H.out.fr (bthen (by (repeat (first | (with_reducible exact Below.refl _ _) | (with_reducible refine Below.drew ?_) | (with_reducible refine rx_drewN ?_ _) | ((with_reducible apply bthen); rotate_left; assumption)))) B2)⟩
  · simp only [List.length_cons] at hpl
    have e_ok : of.contains c = true → Tr.esc pl of (c :: r) p = .ok c r (p + 1) := fun hc => by unfold Tr.esc; simp only [hc, if_true]
    have e_no : of.contains c = false → Tr.hx2 (c :: r) = none → Tr.esc pl of (c :: r) p = .no pl 8 := fun hc hh => by unfold Tr.esc; simp only [hc, hh]; rfl
    have e_hx : ∀ x, of.contains c = false → Tr.hx2 (c :: r) = some x → Tr.esc pl of (c :: r) p = .ok x (r.drop 2) (p + 3) := fun x hc hh => by unfold Tr.esc; simp only [hc, hh]; rfl
    have EO := Lib.hid e_ok
    have EN := Lib.hid e_no
    have EX := Lib.hid e_hx
    clear e_ok e_no e_hx
    cases hc : of.contains c
    · have HC := Lib.hid hc
      cases hx : c == (120 : UInt8)
      · have ER : Hid (Tr.esc pl of (c :: r) p = .no pl 8) := Lib.hid (EN.out hc (by unfold Tr.hx2; rcases r with _ | ⟨a, _ | ⟨b, r⟩⟩ <;> simp; intro e; subst e; simp at hx))
        have hx' : ((c.toNat : Int) == 120) = false := by have := u8_beq c 120; rw [hx] at this; exact this
        rw [ER.out]
        clear hx
        by_cases hr : 2 ≤ r.length
        · have h3 : decide ((3 : Int) ≤ (r.length : Int) + 1) = true := decide_eq_true (by omega)
          go_enter Tryd.func83, Tryd.ntmps83
          go_wp2_with fail
          go_quiet (fail)
          go_wp2_with fail
          refine (HI.out _ _).mono ?_
          rintro e w1 ⟨i, rfl, hi, rfl⟩
          rw [HC.out] at hi
          go_wp2_with fail
          refine (fails_any pl 8).mono ?_
          rintro e w2 ⟨rfl, B2⟩
          exact ⟨rfl, rfl, H.out.fr (bthen (by (repeat (first | (with_reducible exact Below.refl _ _) | (with_reducible refine Below.drew ?_) | (with_reducible refine rx_drewN ?_ _) | ((with_reducible apply bthen); rotate_left; assumption)))) B2)⟩
        · have h3 : decide ((3 : Int) ≤ (r.length : Int) + 1) = false := decide_eq_false (by omega)
          go_enter Tryd.func83, Tryd.ntmps83
          go_wp2_with fail
          go_quiet (fail)
          go_wp2_with fail
          refine (HI.out _ _).mono ?_
          rintro e w1 ⟨i, rfl, hi, rfl⟩
          rw [HC.out] at hi
          go_wp2_with fail
          refine (fails_any pl 8).mono ?_
          rintro e w2 ⟨rfl, B2⟩
          exact ⟨rfl, rfl, H.out.fr (bthen (by (repeat (first | (with_reducible exact Below.refl _ _) | (with_reducible refine Below.drew ?_) | (with_reducible refine rx_drewN ?_ _) | ((with_reducible apply bthen); rotate_left; assumption)))) B2)⟩
      · have hcx : c = 120 := by simpa using hx
        have hx' : ((c.toNat : Int) == 120) = true := by rw [hcx]; rfl
        have HX := Lib.hid hcx
        clear hx hcx
        rcases r with _ | ⟨a, _ | ⟨b, r⟩⟩
        · have ER : Hid (Tr.esc pl of [c] p = .no pl 8) := Lib.hid (EN.out hc (by rw [HX.out]; rfl))
          rw [ER.out]
          go_enter Tryd.func83, Tryd.ntmps83
          go_wp2_with fail
          go_quiet (fail)
          go_wp2_with fail
          refine (HI.out _ _).mono ?_
          rintro e w1 ⟨i, rfl, hi, rfl⟩
          rw [HC.out] at hi
          go_wp2_with fail
          refine (fails_any pl 8).mono ?_
          rintro e w2 ⟨rfl, B2⟩
          exact ⟨rfl, rfl, H.out.fr (bthen (by (repeat (first | (with_reducible exact Below.refl _ _) | (with_reducible refine Below.drew ?_) | (with_reducible refine rx_drewN ?_ _) | ((with_reducible apply bthen); rotate_left; assumption)))) B2)⟩
        · have ER : Hid (Tr.esc pl of [c, a] p = .no pl 8) := Lib.hid (EN.out hc (by rw [HX.out]; rfl))
          rw [ER.out]
          go_enter Tryd.func83, Tryd.ntmps83
          go_wp2_with fail
          go_quiet (fail)
          go_wp2_with fail
          refine (HI.out _ _).mono ?_
          rintro e w1 ⟨i, rfl, hi, rfl⟩
          rw [HC.out] at hi
          go_wp2_with fail
          refine (fails_any pl 8).mono ?_
          rintro e w2 ⟨rfl, B2⟩
          exact ⟨rfl, rfl, H.out.fr (bthen (by (repeat (first | (with_reducible exact Below.refl _ _) | (with_reducible refine Below.drew ?_) | (with_reducible refine rx_drewN ?_ _) | ((with_reducible apply bthen); rotate_left; assumption)))) B2)⟩
        · simp only [List.length_cons] at hpl
          have h3 : decide ((3 : Int) ≤ (r.length : Int) + 1 + 1 + 1) = true := decide_eq_true (by omega)
          have e2a : Tr.hv a = none → Tr.hx2 (c :: a :: b :: r) = none := fun h => by rw [HX.out]; unfold Tr.hx2; simp only [if_true, h]
          have e2b : Tr.hv b = none → Tr.hx2 (c :: a :: b :: r) = none := fun h => by rw [HX.out]; unfold Tr.hx2; simp only [if_true, h]; cases Tr.hv a <;> rfl
          have e2 : ∀ m n, Tr.hv a = some m → Tr.hv b = some n → Tr.hx2 (c :: a :: b :: r) = some (UInt8.ofNat (16 * m + n)) := fun m n h h' => by rw [HX.out]; unfold Tr.hx2; simp only [if_true, h, h']
          have HVa := Lib.hid (fun z => value_any a z)
          have HVb := Lib.hid (fun z => value_any b z)
          have bda := hv_lt a
          have bdb := hv_lt b
          cases ha : Tr.hv a with
          | none =>
            rw [ha] at HVa
            have ER : Hid (Tr.esc pl of (c :: a :: b :: r) p = .no pl 8) := Lib.hid (EN.out hc (e2a ha))
            rw [ER.out]
            clear bda bdb e2 e2a e2b
            go_enter Tryd.func83, Tryd.ntmps83
            go_wp2_with fail
            go_quiet (fail)
            go_wp2_with fail
            refine (HI.out _ _).mono ?_
            rintro e w1 ⟨i, rfl, hi, rfl⟩
            rw [HC.out] at hi
            go_wp2_with fail
            refine (HVa.out _).mono ?_
            rintro e w1 ⟨rfl, rfl⟩
            go_wp2_with fail
            refine (HVb.out _).mono ?_
            rintro e w1 ⟨rfl, rfl⟩
            go_wp2_with fail
            refine (fails_any pl 8).mono ?_
            rintro e w2 ⟨rfl, B2⟩
            exact ⟨rfl, rfl, H.out.fr (bthen (by (repeat (first | (with_reducible exact Below.refl _ _) | (with_reducible refine Below.drew ?_) | (with_reducible refine rx_drewN ?_ _) | ((with_reducible apply bthen); rotate_left; assumption)))) B2)⟩
          | some m =>
            rw [ha] at HVa
            cases hb : Tr.hv b with
            | none =>
              rw [hb] at HVb
              have ER : Hid (Tr.esc pl of (c :: a :: b :: r) p = .no pl 8) := Lib.hid (EN.out hc (e2b hb))
              rw [ER.out]
              clear bda bdb e2 e2a e2b
              go_enter Tryd.func83, Tryd.ntmps83
              go_wp2_with fail
              go_quiet (fail)
              go_wp2_with fail
              refine (HI.out _ _).mono ?_
              rintro e w1 ⟨i, rfl, hi, rfl⟩
              rw [HC.out] at hi
              go_wp2_with fail
              refine (HVa.out _).mono ?_
              rintro e w1 ⟨rfl, rfl⟩
              go_wp2_with fail
              refine (HVb.out _).mono ?_
              rintro e w1 ⟨rfl, rfl⟩
              go_wp2_with fail
              refine (fails_any pl 8).mono ?_
              rintro e w2 ⟨rfl, B2⟩
              exact ⟨rfl, rfl, H.out.fr (bthen (by (repeat (first | (with_reducible exact Below.refl _ _) | (with_reducible refine Below.drew ?_) | (with_reducible refine rx_drewN ?_ _) | ((with_reducible apply bthen); rotate_left; assumption)))) B2)⟩
            | some n =>
              rw [hb] at HVb
              have ER : Hid (Tr.esc pl of (c :: a :: b :: r) p = .ok (UInt8.ofNat (16 * m + n)) r (p + 3)) := Lib.hid (EX.out _ hc (e2 m n ha hb))
              rw [ER.out]
              replace bda := bda m ha
              replace bdb := bdb n hb
              clear e2 e2a e2b
              have HBD := Lib.hid (And.intro bda bdb)
              clear bda bdb
              go_enter Tryd.func83, Tryd.ntmps83
              go_wp2_with fail
              go_quiet (fail)
              go_wp2_with fail
              refine (HI.out _ _).mono ?_
              rintro e w1 ⟨i, rfl, hi, rfl⟩
              rw [HC.out] at hi
              go_wp2_with fail
              refine (HVa.out _).mono ?_
              rintro e w1 ⟨rfl, rfl⟩
              go_wp2_with fail
              refine (HVb.out _).mono ?_
              rintro e w1 ⟨rfl, rfl⟩
              go_wp2_with fail
              go_ret
              refine ⟨ret_int (hx_or ⟨m, HBD.out.1⟩ ⟨n, HBD.out.2⟩), ?_, ?_⟩
              · have := (H.out.below (w' := w.drewN nq) (by (repeat (first | (with_reducible exact Below.refl _ _) | (with_reducible refine Below.drew ?_) | (with_reducible refine rx_drewN ?_ _) | ((with_reducible apply bthen); rotate_left; assumption))))).at_ 3 (by simp)
                simpa using this
              · exact (H.out.fr (by (repeat (first | (with_reducible exact Below.refl _ _) | (with_reducible refine Below.drew ?_) | (with_reducible refine rx_drewN ?_ _) | ((with_reducible apply bthen); rotate_left; assumption))))).set 1 _
    · have HC := Lib.hid hc
      rw [EO.out hc]
      go_enter Tryd.func83, Tryd.ntmps83
      go_wp2_with fail
      go_quiet (fail)
      go_wp2_with fail
      refine (HI.out c _).mono ?_
      rintro e w1 ⟨i, rfl, hi, rfl⟩
      rw [HC.out] at hi
      go_wp2_with fail
      go_ret
      refine ⟨rfl, ?_, ?_⟩
      · have := (H.out.below (w' := w.drewN nq) (by (repeat (first | (with_reducible exact Below.refl _ _) | (with_reducible refine Below.drew ?_) | (with_reducible refine rx_drewN ?_ _) | ((with_reducible apply bthen); rotate_left; assumption))))).at_ 1 (by simp)
        simpa using this
      · exact (H.out.fr (by (repeat (first | (with_reducible exact Below.refl _ _) | (with_reducible refine Below.drew ?_) | (with_reducible refine rx_drewN ?_ _) | ((with_reducible apply bthen); rotate_left; assumption))))).set 1 _
end
end Go.Proofs.YtebkaajnnjfhjaaDoor
namespace Go.Proofs.YtebkaajnnjfhjaaDoor
set_option linter.unusedVariables false
set_option linter.unusedSimpArgs false
open Go.RowKit Go.Proofs.YtebkaajnnjfhjaaDoorW.PrintWords
open Tr (Nd Pt T R sz rootI post)

section
variable {w0 w w1 : World} {base g : Nat} {l r : List UInt8} {p op : Nat} {ns : List Nd} {ps : List Pt} {vN vP : Value}
/-- What a call does behind a call that only read on. -/
theorem OutR.after {α : Type} {enc : α → Value} {res : R α} {e : Ending} {w' : World} (hb : Bg g w w1) (h : OutR w1 base g l op ns ps vN vP enc res e w') : OutR w base g l op ns ps vN vP enc res e w' := by
  cases res with
  | ok v r' p' => exact ⟨h.1, h.2.1, hb.trans h.2.2⟩
  | no q x => exact ⟨h.1, hb.trans h.2⟩
theorem OutR.fail {α : Type} {enc : α → Value} {q : Nat} {x : Int} {w' : World} (hb : Bg g w w') : OutR w base g l op ns ps vN vP enc (.no q x) (.panicked (flt q x)) w' := ⟨rfl, hb⟩
set_option maxHeartbeats 3200000 in
theorem item_any (h : RS w base g l r p op ns ps vN vP) : Calls Tryd.prog 90 #[.pointer (some ⟨g, 0, none⟩)] w (OutR w base g l op ns ps vN vP (fun x : UInt8 => .int .u8 x.toNat) (Tr.item r p)) := by
  have H := Lib.hid h
  have HI := Lib.hid (fun (c : UInt8) (z : World) => rixb_any c [92, 93, 94, 45] z)
  obtain ⟨c0, c1, c2, c3, c4⟩ := h.cells
  have hll := h.ll
  have hpl := h.pl
  have W1 : IntKind.i64.wrap ((p : Int) + 1) = (p : Int) + 1 := IntWalk.i64_in _ (by omega)
  rcases r with _ | ⟨c, r⟩
  · have HN := Lib.hid (next_none h)
    clear h hll
    go_enter Tryd.func90, Tryd.ntmps90
    go_wp2_with fail
    refine HN.out.mono ?_
    rintro e w1 ⟨rfl, B1⟩
    go_wp2_with fail
    refine (fails_any p 8).mono ?_
    rintro e w2 ⟨rfl, B2⟩
    exact ⟨rfl, OutR.fail (H.out.fr (bthen B1 B2))⟩
  · have HN := Lib.hid (next_some h)
    clear h hll
    cases hx : c == (92 : UInt8)
    · have hx' : ((c.toNat : Int) == 92) = false := by have := u8_beq c 92; rw [hx] at this; exact this
      have hx2 : ((c.toNat : Int) != 92) = true := by unfold bne; rw [hx']; rfl
      have hx3 : ¬ c = 92 := by simpa using hx
      have HX := Lib.hid hx3
      clear hx hx3
      cases hc : Tr.inside.contains c
      · have ER : Hid (Tr.item (c :: r) p = .ok c r (p + 1)) := Lib.hid (by unfold Tr.item; simp only [HX.out, if_false, hc]; rfl)
        rw [ER.out]
        have HC : Hid (List.contains [92, 93, 94, 45] c = false) := Lib.hid hc
        clear hc
        go_enter Tryd.func90, Tryd.ntmps90
        go_wp2_with fail
        refine HN.out.mono ?_
        rintro e w1 ⟨rfl, B1⟩
        have HR := Lib.hid (H.out.below B1)
        obtain ⟨d0, d1, d2, d3, d4⟩ := HR.out.cells
        have f1 := HR.out.ice 1
        have HB := Lib.hid B1
        clear B1
        go_wp2_with fail
        refine (HI.out _ _).mono ?_
        rintro e w2 ⟨i, rfl, hi, rfl⟩
        rw [HC.out] at hi
        go_wp2_with fail
        go_ret
        refine ⟨rfl, ?_, ?_⟩
        · have := HR.out.at_ 1 (by simp)
          simpa using this
        · exact (H.out.fr HB.out).set 1 _
      · have ER : Hid (Tr.item (c :: r) p = .no p 8) := Lib.hid (by unfold Tr.item; simp only [HX.out, if_false, hc]; rfl)
        rw [ER.out]
        have HC : Hid (List.contains [92, 93, 94, 45] c = true) := Lib.hid hc
        clear hc
        go_enter Tryd.func90, Tryd.ntmps90
        go_wp2_with fail
        refine HN.out.mono ?_
        rintro e w1 ⟨rfl, B1⟩
        have HR := Lib.hid (H.out.below B1)
        obtain ⟨d0, d1, d2, d3, d4⟩ := HR.out.cells
        have f1 := HR.out.ice 1
        have HB := Lib.hid B1
        clear B1
        go_wp2_with fail
        refine (HI.out _ _).mono ?_
        rintro e w2 ⟨i, rfl, hi, rfl⟩
        rw [HC.out] at hi
        go_wp2_with fail
        refine (fails_any p 8).mono ?_
        rintro e w2 ⟨rfl, B2⟩
        exact ⟨rfl, OutR.fail (H.out.fr (bthen HB.out (bthen (by (repeat (first | (with_reducible exact Below.refl _ _) | (with_reducible refine Below.drew ?_) | (with_reducible refine rx_drewN ?_ _) | ((with_reducible apply bthen); rotate_left; assumption)))) B2)))⟩
    · have hx' : ((c.toNat : Int) == 92) = true := by have := u8_beq c 92; rw [hx] at this; exact this
      have hx2 : ((c.toNat : Int) != 92) = false := by unfold bne; rw [hx']; rfl
      have hx3 : c = 92 := by simpa using hx
      have ER : Hid (Tr.item (c :: r) p = Tr.esc p Tr.inside r (p + 1)) := Lib.hid (by unfold Tr.item; simp only [hx3, if_true])
      rw [ER.out]
      have HO := Lib.hid (fun z h => escape_any (w := z) (base := base) (g := g) (l := l) (r := r) (p := p + 1) (op := op) (ns := ns) (ps := ps) (vN := vN) (vP := vP) p [92, 93, 94, 45] h)
      have ED : Hid (Tr.inside = [92, 93, 94, 45]) := Lib.hid rfl
      rw [ED.out]
      generalize Tr.esc p [92, 93, 94, 45] r (p + 1) = res at HO ⊢
      clear hx hx3 ER
      rcases res with ⟨v, r', p'⟩ | ⟨q, x⟩
      all_goals
        go_enter Tryd.func90, Tryd.ntmps90
        go_wp2_with fail
        refine HN.out.mono ?_
        rintro e w1 ⟨rfl, B1⟩
        have HR := Lib.hid (H.out.below B1)
        obtain ⟨d0, d1, d2, d3, d4⟩ := HR.out.cells
        have f1 := HR.out.ice 1
        have HB := Lib.hid B1
        clear B1
        go_wp2_with fail
        refine (HO.out _ (by have := HR.out.at_ 1 (by simp); simpa using this)).mono ?_
        rintro e w2 hO
        have HBB : Hid (Bg g w (w1.setCell ⟨g, 1, none⟩ (.int .i64 ((p : Int) + 1)))) := Lib.hid ((H.out.fr HB.out).set 1 _)
      · obtain ⟨rfl, HR2, B2⟩ := hO
        have HZ := Lib.hid (And.intro HR2 (HBB.out.trans B2))
        clear HR2 B2
        go_wp2_with fail
        go_ret
        exact ⟨rfl, HZ.out⟩
      · obtain ⟨rfl, B2⟩ := hO
        exact ⟨rfl, OutR.fail (HBB.out.trans B2)⟩
end
end Go.Proofs.YtebkaajnnjfhjaaDoor
