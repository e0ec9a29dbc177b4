/-
  The reader's item: walked.
-/
import Derived.Test.YtebkaajnnjfhjaaRx4
namespace Go.Proofs.Ytebkaajnnjfhjaa
set_option linter.unusedVariables false
set_option linter.unusedSimpArgs false
open Go.RowKit Go.Proofs.YtebkaajnnjfhjaaW.PrintWords
open Tr (Nd Pt T R sz rootI post)

section
variable {w0 w w1 : World} {base g : Nat} {l r : List UInt8} {p op : Nat} {ns : List Nd} {ps : List Pt} {vN vP : Value}
/-- What a call does behind a call that only read on. -/
theorem OutR.after {α : Type} {enc : α → Value} {res : R α} {e : Ending} {w' : World} (hb : Bg g w w1) (h : OutR w1 base g l op ns ps vN vP enc res e w') : OutR w base g l op ns ps vN vP enc res e w' := by
  cases res with
  | ok v r' p' => exact ⟨h.1, h.2.1, hb.trans h.2.2⟩
  | no q x => exact ⟨h.1, hb.trans h.2⟩
theorem OutR.fail {α : Type} {enc : α → Value} {q : Nat} {x : Int} {w' : World} (hb : Bg g w w') : OutR w base g l op ns ps vN vP enc (.no q x) (.panicked (flt q x)) w' := ⟨rfl, hb⟩
set_option maxHeartbeats 3200000 in
theorem item_any (h : RS w base g l r p op ns ps vN vP) : Calls Try.prog 39 #[.pointer (some ⟨g, 0, none⟩)] w (OutR w base g l op ns ps vN vP (fun x : UInt8 => .int .u8 x.toNat) (Tr.item r p)) := by
  have H := Lib.hid h
  have HI := Lib.hid (fun (c : UInt8) (z : World) => rixb_any c [92, 93, 94, 45] z)
  obtain ⟨c0, c1, c2, c3, c4⟩ := h.cells
  have hll := h.ll
  have hpl := h.pl
  have W1 : IntKind.i64.wrap ((p : Int) + 1) = (p : Int) + 1 := IntWalk.i64_in _ (by omega)
  rcases r with _ | ⟨c, r⟩
  · have HN := Lib.hid (next_none h)
    clear h hll
    go_enter Try.func39, Try.ntmps39
    go_wp2_with fail
    refine HN.out.mono ?_
    rintro e w1 ⟨rfl, B1⟩
    go_wp2_with fail
    refine (fails_any p 8).mono ?_
    rintro e w2 ⟨rfl, B2⟩
    exact ⟨rfl, OutR.fail (H.out.fr (bthen B1 B2))⟩
  · have HN := Lib.hid (next_some h)
    clear h hll
    cases hx : c == (92 : UInt8)
    · have hx' : ((c.toNat : Int) == 92) = false := by have := u8_beq c 92; rw [hx] at this; exact this
      have hx2 : ((c.toNat : Int) != 92) = true := by unfold bne; rw [hx']; rfl
      have hx3 : ¬ c = 92 := by simpa using hx
      have HX := Lib.hid hx3
      clear hx hx3
      cases hc : Tr.inside.contains c
      · have ER : Hid (Tr.item (c :: r) p = .ok c r (p + 1)) := Lib.hid (by unfold Tr.item; simp only [HX.out, if_false, hc]; rfl)
        rw [ER.out]
        have HC : Hid (List.contains [92, 93, 94, 45] c = false) := Lib.hid hc
        clear hc
        go_enter Try.func39, Try.ntmps39
        go_wp2_with fail
        refine HN.out.mono ?_
        rintro e w1 ⟨rfl, B1⟩
        have HR := Lib.hid (H.out.below B1)
        obtain ⟨d0, d1, d2, d3, d4⟩ := HR.out.cells
        have f1 := HR.out.ice 1
        have HB := Lib.hid B1
        clear B1
        go_wp2_with fail
        refine (HI.out _ _).mono ?_
        rintro e w2 ⟨i, rfl, hi, rfl⟩
        rw [HC.out] at hi
        go_wp2_with fail
        go_ret
        refine ⟨rfl, ?_, ?_⟩
        · have := HR.out.at_ 1 (by simp)
          simpa using this
        · exact (H.out.fr HB.out).set 1 _
      · have ER : Hid (Tr.item (c :: r) p = .no p 8) := Lib.hid (by unfold Tr.item; simp only [HX.out, if_false, hc]; rfl)
        rw [ER.out]
        have HC : Hid (List.contains [92, 93, 94, 45] c = true) := Lib.hid hc
        clear hc
        go_enter Try.func39, Try.ntmps39
        go_wp2_with fail
        refine HN.out.mono ?_
        rintro e w1 ⟨rfl, B1⟩
        have HR := Lib.hid (H.out.below B1)
        obtain ⟨d0, d1, d2, d3, d4⟩ := HR.out.cells
        have f1 := HR.out.ice 1
        have HB := Lib.hid B1
        clear B1
        go_wp2_with fail
        refine (HI.out _ _).mono ?_
        rintro e w2 ⟨i, rfl, hi, rfl⟩
        rw [HC.out] at hi
        go_wp2_with fail
        refine (fails_any p 8).mono ?_
        rintro e w2 ⟨rfl, B2⟩
        exact ⟨rfl, OutR.fail (H.out.fr (bthen HB.out (bthen (by (repeat (first | (with_reducible exact Below.refl _ _) | (with_reducible refine Below.drew ?_) | (with_reducible refine rx_drewN ?_ _) | ((with_reducible apply bthen); rotate_left; assumption)))) B2)))⟩
    · have hx' : ((c.toNat : Int) == 92) = true := by have := u8_beq c 92; rw [hx] at this; exact this
      have hx2 : ((c.toNat : Int) != 92) = false := by unfold bne; rw [hx']; rfl
      have hx3 : c = 92 := by simpa using hx
      have ER : Hid (Tr.item (c :: r) p = Tr.esc p Tr.inside r (p + 1)) := Lib.hid (by unfold Tr.item; simp only [hx3, if_true])
      rw [ER.out]
      have HO := Lib.hid (fun z h => escape_any (w := z) (base := base) (g := g) (l := l) (r := r) (p := p + 1) (op := op) (ns := ns) (ps := ps) (vN := vN) (vP := vP) p [92, 93, 94, 45] h)
      have ED : Hid (Tr.inside = [92, 93, 94, 45]) := Lib.hid rfl
      rw [ED.out]
      generalize Tr.esc p [92, 93, 94, 45] r (p + 1) = res at HO ⊢
      clear hx hx3 ER
      rcases res with ⟨v, r', p'⟩ | ⟨q, x⟩
      all_goals
        go_enter Try.func39, Try.ntmps39
        go_wp2_with fail
        refine HN.out.mono ?_
        rintro e w1 ⟨rfl, B1⟩
        have HR := Lib.hid (H.out.below B1)
        obtain ⟨d0, d1, d2, d3, d4⟩ := HR.out.cells
        have f1 := HR.out.ice 1
        have HB := Lib.hid B1
        clear B1
        go_wp2_with fail
        refine (HO.out _ (by have := HR.out.at_ 1 (by simp); simpa using this)).mono ?_
        rintro e w2 hO
        have HBB : Hid (Bg g w (w1.setCell ⟨g, 1, none⟩ (.int .i64 ((p : Int) + 1)))) := Lib.hid ((H.out.fr HB.out).set 1 _)
      · obtain ⟨rfl, HR2, B2⟩ := hO
        have HZ := Lib.hid (And.intro HR2 (HBB.out.trans B2))
        clear HR2 B2
        go_wp2_with fail
        go_ret
        exact ⟨rfl, HZ.out⟩
      · obtain ⟨rfl, B2⟩ := hO
        exact ⟨rfl, OutR.fail (HBB.out.trans B2)⟩
end
end Go.Proofs.Ytebkaajnnjfhjaa
