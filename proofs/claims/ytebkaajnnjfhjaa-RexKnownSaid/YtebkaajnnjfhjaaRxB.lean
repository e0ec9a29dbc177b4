/-
  The reader's constraint: walked.
-/
import Derived.Test.YtebkaajnnjfhjaaRxA
namespace Go.Proofs.Ytebkaajnnjfhjaa
set_option linter.unusedVariables false
set_option linter.unusedSimpArgs false
open Go.RowKit Go.Proofs.YtebkaajnnjfhjaaW.PrintWords
open Tr (Nd Pt T R sz rootI post)

namespace Tr
/-- The nodes of a row of parts, one behind another; the parts. -/
def ndsL : Nat → List (Bool × T) → List Nd
  | _, [] => []
  | n, x :: r => post n x.2 ++ ndsL (n + sz x.2) r
def ptsL : Nat → List (Bool × T) → List Pt
  | _, [] => []
  | n, x :: r => ⟨rootI n x.2, x.1⟩ :: ptsL (n + sz x.2) r
def szL : List (Bool × T) → Nat
  | [] => 0
  | x :: r => sz x.2 + szL r
theorem ndsL_len (l : List (Bool × T)) : ∀ n, (ndsL n l).length = szL l := by
  induction l with
  | nil => intro n; rfl
  | cons x l ih => intro n; simp [ndsL, szL, post_len, ih]
theorem ptsL_len (l : List (Bool × T)) : ∀ n, (ptsL n l).length = l.length := by
  induction l with
  | nil => intro n; rfl
  | cons x l ih => intro n; simp [ptsL, ih]
theorem ndsL_snoc (l : List (Bool × T)) (b : Bool) (t : T) : ∀ n, ndsL n (l ++ [(b, t)]) = ndsL n l ++ post (n + (ndsL n l).length) t := by
  induction l with
  | nil => intro n; simp [ndsL]
  | cons x l ih =>
    intro n
    simp only [List.cons_append, ndsL, ih, List.append_assoc, List.length_append, post_len]
    rw [show n + sz x.2 + (ndsL (n + sz x.2) l).length = n + (sz x.2 + (ndsL (n + sz x.2) l).length) by omega]
theorem ptsL_snoc (l : List (Bool × T)) (b : Bool) (t : T) : ∀ n, ptsL n (l ++ [(b, t)]) = ptsL n l ++ [⟨rootI (n + (ndsL n l).length) t, b⟩] := by
  induction l with
  | nil => intro n; simp [ptsL, ndsL]
  | cons x l ih =>
    intro n
    simp only [List.cons_append, ptsL, ih, ndsL, List.length_append, post_len]
    rw [show n + sz x.2 + (ndsL (n + sz x.2) l).length = n + (sz x.2 + (ndsL (n + sz x.2) l).length) by omega]
theorem szL_snoc (l : List (Bool × T)) (b : Bool) (t : T) : szL (l ++ [(b, t)]) = szL l + sz t := by
  induction l with
  | nil => simp [szL]
  | cons x l ih => simp only [List.cons_append, szL, ih]; omega
theorem bangs_stop {b : Bool} {l : B} {p : Nat} (h : nx 33 l = false) : bangs b l p = (b, l, p) := by
  rcases l with _ | ⟨c, l⟩
  · rfl
  · have hc : c ≠ 33 := by rintro rfl; exact absurd h (by unfold nx; simp)
    unfold bangs
    split
    · rename_i h'; injection h' with h1 _; exact absurd h1 hc
    · rfl
end Tr
open Tr (ndsL ptsL szL)
def OutP (w : World) (base g : Nat) (l : List UInt8) (res : R (List (Bool × T))) (e : Ending) (w' : World) : Prop :=
  match res with
  | .ok x r' p' => e = .returned (.tuple #[]) ∧ (∃ vN' vP', RS w' base g l r' p' 0 (ndsL 0 x) (ptsL 0 x) vN' vP') ∧ Below base w w' ∧ szL x + 2 * r'.length ≤ 2 * l.length + 1
  | .no q x => e = .panicked (flt q x) ∧ Below base w w'
section
variable {w0 w w1 : World} {base g : Nat} {l r : List UInt8} {p op : Nat} {ns : List Nd} {ps : List Pt} {vN vP : Value}
theorem OutP.fail {q : Nat} {x : Int} {w' : World} (hb : Below base w w') : OutP w base g l (.no q x) (.panicked (flt q x)) w' := ⟨rfl, hb⟩
/-- One part more. -/
theorem RS.part {v1 : Value} (q : Pt) (h : RS w base g l r p op ns ps vN vP) (ho : w1.ownsRow base 50 2 v1 (ps.length + 1) (ps.flatMap ptC ++ ptC q)) (hg : w.grownBy w1 vP.ownBlock) : RS (w1.setCell ⟨g, 4, none⟩ v1) base g l r p op ns (ps ++ [q]) vN v1 := by
  have hb := blk_grown h.blk hg (own_ne h.rP h.blk (by decide))
  have hr := own_other h.rN hg (own_type_ne h.rN h.rP (by decide))
  have happ : ps.flatMap ptC ++ ptC q = (ps ++ [q]).flatMap ptC := by rw [List.flatMap_append]; simp
  rw [happ] at ho
  refine ⟨blk_put hb 4 _ rfl, own_setCell hr (p := ⟨g, 4, none⟩) (own_ne hr hb (by decide)) _, ?_, h.bg, h.dr, h.pl, h.ll, h.op⟩
  have := own_setCell ho (p := ⟨g, 4, none⟩) (own_ne ho hb (by decide)) v1
  simpa using this
theorem RS.grown4 (h : RS w base g l r p op ns ps vN vP) (hg : w.grownBy w1 vP.ownBlock) : w1.cell? ⟨g, 0, none⟩ = some (.string ⟨l.toArray⟩) ∧ w1.cell? ⟨g, 1, none⟩ = some (.int .i64 p) ∧ w1.cell? ⟨g, 4, none⟩ = some vP ∧ w1.frozen? ⟨g, 4, none⟩ = false := by
  have hb := blk_grown h.blk hg (own_ne h.rP h.blk (by decide))
  exact ⟨(blk_cell hb 0).trans rfl, (blk_cell hb 1).trans rfl, (blk_cell hb 4).trans rfl, blk_frozen hb 4⟩
set_option maxRecDepth 100000 in
set_option maxHeartbeats 6400000 in
theorem constraint_any {f0 : Nat} (hf : l.length < f0) (h : RS w base g l l 0 0 [] [] vN vP) :
    Calls Try.prog 12 #[.pointer (some ⟨g, 0, none⟩)] w (OutP w base g l (Tr.cons f0 16 f0 [] l 0)) := by
  have H := Lib.hid h
  have HF := Lib.hid hf
  generalize ht : Tr.cons f0 16 f0 [] l 0 = res
  have HT := Lib.hid ht
  clear h ht hf
  go_enter Try.func12, Try.ntmps12
  go_wp2_with fail
  go_loopw [] (fun wr => ∃ (acc : List (Bool × T)) (r2 : List UInt8) (p2 f : Nat) (vN' vP' : Value), r2.length < f ∧ szL acc + 2 * r2.length ≤ 2 * l.length ∧ acc.length < 20 ∧ Hid (Tr.cons f0 16 f acc r2 p2 = res) ∧ Hid (RS wr base g l r2 p2 0 (ndsL 0 acc) (ptsL 0 acc) vN' vP') ∧ Hid (Below base w wr)) (fun wr => l.length - posOf wr g)
  case atStart => exact ⟨[], l, 0, f0, vN, vP, HF.out, by simp [szL], by simp, HT, H, Lib.hid (Below.refl _ _)⟩
  case round =>
    clear HT
    obtain ⟨acc, r2, p2, f, vN', vP', hf, hs, ha20, HC, HR, HB⟩ := hrel
    rcases f with _ | f
    · omega
    have HM := Lib.hid HR.out.pos
    have HZp := Lib.hid HR.out.pl
    go_wp2_with fail
    go_loopw [2] (fun v2 wi => ∃ (b : Bool) (r3 : List UInt8) (p3 : Nat), v2 = .bool b ∧ r3.length ≤ r2.length ∧ Hid (Tr.bangs false r2 p2 = Tr.bangs b r3 p3) ∧ Hid (RS wi base g l r3 p3 0 (ndsL 0 acc) (ptsL 0 acc) vN' vP') ∧ Hid (Below base w wi)) (fun _ wi => l.length - posOf wi g)
    case atStart => exact ⟨false, r2, p2, rfl, Nat.le_refl _, Lib.hid rfl, HR, HB⟩
    case round =>
      clear HR HB
      obtain ⟨b, r3, p3, rfl, hl3, HBG, HR, HB⟩ := hrel
      have HM3 := Lib.hid HR.out.pos
      have HZ3 := Lib.hid HR.out.pl
      have HI := is_any 33 HR.out
      cases h33 : Tr.nx 33 r3
      · rw [h33] at HI
        replace HBG := Lib.hid (HBG.out.trans (Tr.bangs_stop h33))
        clear h33
        go_wp2_with fail
        refine HI.mono ?_
        rintro e w2 ⟨rfl, hR2, B2⟩
        have HR2 : Hid (RS w2 base g l r3 p3 0 (ndsL 0 acc) (ptsL 0 acc) vN' vP') := Lib.hid hR2
        have HB2 := Lib.hid (HB.out.trans (HR.out.bs B2))
        clear hR2 B2 HR HB
        go_wp2_with fail
        refine (pattern_any (group_any f0 16) rfl HF.out (by rw [Tr.ndsL_len]; have := HR2.out.ll; omega) HR2.out).mono ?_
        rintro e w3 hO
        replace HC : Hid (((Tr.pat f0 (Tr.grp f0 16) r3 p3).bnd fun t l1 p1 => if l1 = [] then .ok (acc ++ [(b, t)]) l1 p1 else if Tr.nx 38 l1 then (if acc.length + 1 = 20 then .no p1 3 else Tr.cons f0 16 f (acc ++ [(b, t)]) (l1.drop 1) (p1 + 1)) else .no p1 8) = res) := Lib.hid (by rw [← HC.out, Tr.cons]; simp only [HBG.out])
        cases ha : Tr.pat f0 (Tr.grp f0 16) r3 p3 with
        | no q x =>
          rw [ha] at hO HC
          obtain ⟨rfl, B3⟩ := hO
          refine ⟨rfl, ?_⟩
          rw [← HC.out]
          exact OutP.fail (HB2.out.trans B3)
        | ok t l1 p1 =>
          rw [ha] at hO HC
          obtain ⟨rfl, ⟨vN3, hR3⟩, B3, hs3⟩ := hO
          have HR3 := Lib.hid hR3
          have HB3 := Lib.hid (HB2.out.trans B3)
          have HS3 := Lib.hid hs3
          clear hR3 B3 HR2 HB2 ha hs3
          replace HC : Hid ((if l1 = [] then .ok (acc ++ [(b, t)]) l1 p1 else if Tr.nx 38 l1 then (if acc.length + 1 = 20 then .no p1 3 else Tr.cons f0 16 f (acc ++ [(b, t)]) (l1.drop 1) (p1 + 1)) else .no p1 8) = res) := HC
          obtain ⟨k, hk⟩ : ∃ k : Int, k = rootI (ndsL 0 acc).length t := ⟨_, rfl⟩
          rw [← hk]
          have HK := Lib.hid hk
          clear hk
          obtain ⟨c0, c1, c2, c3, c4⟩ := HR3.out.cells
          go_wp2_with (at_builtin; refine print_append_cells (w0 := w) base rfl _ _ 25 50 (.agg #[.int .i64 0, .bool false]) 2 16 rfl Try.underlying25 (by kernel_rfl) (by rfl) (by decide) (by decide) vP' (ptsL 0 acc).length ((ptsL 0 acc).flatMap ptC) (ptC ⟨k, b⟩) (by simp [Act.eval, Act.put]) (by simp [Act.eval, Act.put]) (by rfl) (by simp [ptC, Value.oneCell']) HR3.out.rP HB3.out HR3.out.lt (by rw [Tr.ptsL_len]; omega) ?_; intro v1 w4 HO HBB hg hat; obtain ⟨A1, cap1, rfl⟩ := own_slice HO; have HR5 := Lib.hid (HR3.out.part ⟨k, b⟩ HO hg); have HB5 := Lib.hid (HBB.setCell (p := ⟨g, 4, none⟩) HR3.out.bg (.slice A1 ((ptsL 0 acc).length + 1) cap1)); obtain ⟨d0, d1, d4, e4⟩ := HR3.out.grown4 hg; clear HO HBB hg hat c0 c1 c2 c3 c4)
          have HEN := Lib.hid (show ndsL 0 acc ++ post (ndsL 0 acc).length t = ndsL 0 (acc ++ [(b, t)]) by rw [Tr.ndsL_snoc, Nat.zero_add])
          have HEP := Lib.hid (show ptsL 0 acc ++ [⟨k, b⟩] = ptsL 0 (acc ++ [(b, t)]) by rw [Tr.ptsL_snoc, Nat.zero_add, HK.out])
          rw [HEN.out, HEP.out] at HR5
          have HPL := Lib.hid HR5.out.pl
          by_cases hl1 : l1 = []
          · have eq1 : ((p1 : Int) == l.length) = true := by
              have := HPL.out
              rw [hl1] at this
              simp at this
              simp; omega
            replace HC : Hid (.ok (acc ++ [(b, t)]) l1 p1 = res) := Lib.hid (by rw [← HC.out, if_pos hl1])
            clear hl1
            go_quiet (fail)
            go_wp2_with fail
            rw [← HC.out]
            exact bodyPost_ret (results_none rfl _ _ _) rfl ⟨rfl, ⟨_, _, HR5.out.below (by (repeat (first | (with_reducible exact Below.refl _ _) | (with_reducible refine Below.drew ?_) | (with_reducible refine rx_drewN ?_ _) | ((with_reducible apply bthen); rotate_left; assumption))))⟩, HB5.out.trans ((show Below (w4.setCell ⟨g, 4, none⟩ (.slice A1 ((ptsL 0 acc).length + 1) cap1)).heap.size _ _ by (repeat (first | (with_reducible exact Below.refl _ _) | (with_reducible refine Below.drew ?_) | (with_reducible refine rx_drewN ?_ _) | ((with_reducible apply bthen); rotate_left; assumption)))).mono HR5.out.lt), by rw [Tr.szL_snoc]; have := HS3.out; omega⟩
          · have eq1 : ((p1 : Int) == l.length) = false := by
              have := HPL.out
              have : 0 < l1.length := List.length_pos_iff.2 hl1
              simp; omega
            have HNE := Lib.hid (List.length_pos_iff.2 hl1)
            replace HC : Hid ((if Tr.nx 38 l1 then (if acc.length + 1 = 20 then .no p1 3 else Tr.cons f0 16 f (acc ++ [(b, t)]) (l1.drop 1) (p1 + 1)) else .no p1 8) = res) := Lib.hid (by rw [← HC.out, if_neg hl1])
            clear hl1
            go_quiet (fail)
            go_wp2_with fail
            have HR6 := Lib.hid (HR5.out.below (w' := (w4.setCell ⟨g, 4, none⟩ (.slice A1 ((ptsL 0 acc).length + 1) cap1)).drewN nq) (by (repeat (first | (with_reducible exact Below.refl _ _) | (with_reducible refine Below.drew ?_) | (with_reducible refine rx_drewN ?_ _) | ((with_reducible apply bthen); rotate_left; assumption)))))
            have HB6 := Lib.hid (HB5.out.trans ((show Below (w4.setCell ⟨g, 4, none⟩ (.slice A1 ((ptsL 0 acc).length + 1) cap1)).heap.size _ ((w4.setCell ⟨g, 4, none⟩ (.slice A1 ((ptsL 0 acc).length + 1) cap1)).drewN nq) by (repeat (first | (with_reducible exact Below.refl _ _) | (with_reducible refine Below.drew ?_) | (with_reducible refine rx_drewN ?_ _) | ((with_reducible apply bthen); rotate_left; assumption)))).mono HR5.out.lt))
            clear HR5 HB5 d0 d1 d4 e4
            generalize (w4.setCell ⟨g, 4, none⟩ (.slice A1 ((ptsL 0 acc).length + 1) cap1)).drewN nq = w6 at *
            have HI := is_any 38 HR6.out
            cases h38 : Tr.nx 38 l1
            · rw [h38] at HI HC
              replace HC : Hid (.no p1 8 = res) := HC
              clear h38
              refine HI.mono ?_
              rintro e w7 ⟨rfl, hR7, B7⟩
              have HB7 := Lib.hid (HB6.out.trans (HR6.out.bs B7))
              clear B7 HI
              go_wp2_with fail
              refine (fails_any p1 8).mono ?_
              rintro e w8 ⟨rfl, B8⟩
              refine ⟨rfl, ?_⟩
              rw [← HC.out]
              exact OutP.fail (HB7.out.trans (B8.mono hR7.lt))
            · obtain ⟨l2, rfl⟩ := Tr.nx_cons h38
              rw [h38] at HI HC
              replace HC : Hid ((if acc.length + 1 = 20 then .no p1 3 else Tr.cons f0 16 f (acc ++ [(b, t)]) l2 (p1 + 1)) = res) := HC
              clear h38
              refine HI.mono ?_
              rintro e w7 ⟨rfl, hR7, B7⟩
              have HR7 : Hid (RS w7 base g l l2 (p1 + 1) 0 (ndsL 0 (acc ++ [(b, t)])) (ptsL 0 (acc ++ [(b, t)])) vN3 (.slice A1 ((ptsL 0 acc).length + 1) cap1)) := Lib.hid hR7
              have HB7 := Lib.hid (HB6.out.trans (HR6.out.bs B7))
              clear B7 HI hR7 HR6 HB6
              have d4 := HR7.out.cells.2.2.2.2
              by_cases h20 : acc.length + 1 = 20
              · have e20 : ((((ptsL 0 acc).length : Int) + 1) == 20) = true := by rw [Tr.ptsL_len]; simp; omega
                replace HC : Hid (.no p1 3 = res) := Lib.hid (by rw [← HC.out, if_pos h20])
                clear h20
                go_wp2_with fail
                refine (fails_any p1 3).mono ?_
                rintro e w8 ⟨rfl, B8⟩
                refine ⟨rfl, ?_⟩
                rw [← HC.out]
                exact OutP.fail (HB7.out.trans (B8.mono HR7.out.lt))
              · have e20 : ((((ptsL 0 acc).length : Int) + 1) == 20) = false := by rw [Tr.ptsL_len]; simp; omega
                replace HC : Hid (Tr.cons f0 16 f (acc ++ [(b, t)]) l2 (p1 + 1) = res) := Lib.hid (by rw [← HC.out, if_neg h20])
                have HL20 : Hid (acc.length + 1 < 20) := Lib.hid (by omega)
                clear h20
                go_wp2_with fail
                go_roundw
                case rel => exact ⟨acc ++ [(b, t)], l2, p1 + 1, f, _, _, by simp only [List.length_cons] at *; have := HS3.out; have := Tr.sz_pos t; omega, by rw [Tr.szL_snoc]; have := HS3.out; simp only [List.length_cons] at *; omega, by have := HL20.out; simp; omega, HC, HR7, HB7⟩
                case measure => rw [HR7.out.pos, HM.out]; have e1 := HR7.out.pl; have := HZp.out; have := HS3.out; have := Tr.sz_pos t; simp only [List.length_cons] at *; omega
      · obtain ⟨r4, rfl⟩ := Tr.nx_cons h33
        rw [h33] at HI
        clear h33
        go_wp2_with fail
        refine HI.mono ?_
        rintro e w2 ⟨rfl, hR2, B2⟩
        have HR2 : Hid (RS w2 base g l r4 (p3 + 1) 0 (ndsL 0 acc) (ptsL 0 acc) vN' vP') := Lib.hid hR2
        have HB2 := Lib.hid (HB.out.trans (HR.out.bs B2))
        clear hR2 B2 HR HB
        go_wp2_with fail
        go_roundw
        case rel => exact ⟨!b, r4, p3 + 1, rfl, by simp only [List.length_cons] at *; omega, Lib.hid HBG.out, HR2, HB2⟩
        case measure => rw [HR2.out.pos, HM3.out]; have e1 := HR2.out.pl; have := HZ3.out; simp only [List.length_cons] at *; omega
end
end Go.Proofs.Ytebkaajnnjfhjaa
