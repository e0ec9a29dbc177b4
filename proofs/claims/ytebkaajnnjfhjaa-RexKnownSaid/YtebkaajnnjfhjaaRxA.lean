/-
  The reader's pattern and group: walked.
-/
import Derived.Test.YtebkaajnnjfhjaaRx9
namespace Go.Proofs.Ytebkaajnnjfhjaa
set_option linter.unusedVariables false
set_option linter.unusedSimpArgs false
open Go.RowKit Go.Proofs.YtebkaajnnjfhjaaW.PrintWords
open Tr (Nd Pt T R sz rootI post)

namespace Tr
theorem pts_stop' {f0 f : Nat} {g : Nat → B → Nat → R T} {t : T} {l : B} {p : Nat} (h : nx 124 l = false) : pts f0 g (f + 1) t l p = .ok t l p := by rw [pts, h]; rfl
theorem pts_go {f0 f : Nat} {g : Nat → B → Nat → R T} {t : T} {l : B} {p : Nat} : pts f0 g (f + 1) t (124 :: l) p = (bra f0 g f0 none l (p + 1)).bnd fun x l1 p1 => pts f0 g f (.alt t x) l1 p1 := rfl
end Tr
section
variable {w0 w w1 : World} {base g : Nat} {l r : List UInt8} {p op : Nat} {ns : List Nd} {ps : List Pt} {vN vP : Value}
set_option maxRecDepth 100000 in
set_option maxHeartbeats 3200000 in
theorem pattern_any {f0 d : Nat} (HG : GroupSaid f0 d) (hop : op + d = 16) (hf : l.length < f0) (hK : ns.length + 2 * r.length ≤ 90000) (h : RS w base g l r p op ns ps vN vP) :
    Calls Try.prog 18 #[.pointer (some ⟨g, 0, none⟩)] w (OutN w base g l op ns ps vP (2 * r.length + 1) (Tr.pat f0 (Tr.grp f0 d) r p)) := by
  have H := Lib.hid h
  have HGS := Lib.hid HG
  have HN := Lib.hid (And.intro hop (And.intro hf hK))
  have ht : Tr.pat f0 (Tr.grp f0 d) r p = (Tr.bra f0 (Tr.grp f0 d) f0 none r p).bnd fun t l1 p1 => Tr.pts f0 (Tr.grp f0 d) f0 t l1 p1 := rfl
  generalize Tr.pat f0 (Tr.grp f0 d) r p = res at ht ⊢
  have HT := Lib.hid ht
  clear h ht HG hop hf hK
  go_enter Try.func18, Try.ntmps18
  go_wp2_with fail
  refine (branch_any HGS.out HN.out.1 HN.out.2.1 HN.out.2.2 H.out).mono ?_
  rintro e w1 hO
  cases ha : Tr.bra f0 (Tr.grp f0 d) f0 none r p with
  | no q x =>
    rw [ha] at hO HT
    obtain ⟨rfl, B2⟩ := hO
    refine ⟨rfl, ?_⟩
    rw [HT.out]
    exact OutN.fail B2
  | ok t l1 p1 =>
    rw [ha] at hO HT
    obtain ⟨rfl, ⟨vN1, hR1⟩, B1, hs1⟩ := hO
    have HR1 := Lib.hid hR1
    have HB1 := Lib.hid B1
    have HS1 := Lib.hid hs1
    clear hR1 B1 hs1 ha
    replace HT : Hid (Tr.pts f0 (Tr.grp f0 d) f0 t l1 p1 = res) := Lib.hid HT.out.symm
    go_wp2_with fail
    go_loopw [3] (fun v3 wr => ∃ (acc : T) (r2 : List UInt8) (p2 f : Nat) (vN' : Value), v3 = .int .i64 (rootI ns.length acc) ∧ r2.length < f ∧ sz acc + 2 * r2.length ≤ 2 * r.length + 1 ∧ Hid (Tr.pts f0 (Tr.grp f0 d) f acc r2 p2 = res) ∧ Hid (RS wr base g l r2 p2 op (ns ++ post ns.length acc) ps vN' vP) ∧ Hid (Below base w wr)) (fun _ wr => l.length - posOf wr g)
    case atStart => exact ⟨t, l1, p1, f0, vN1, rfl, by have := HR1.out.pl; have := HN.out; omega, HS1.out, HT, HR1, HB1⟩
    case round =>
      clear HT HR1 HB1 HS1
      obtain ⟨acc, r2, p2, f, vN', rfl, hf, hs, HC, HR, HB⟩ := hrel
      rcases f with _ | f
      · omega
      have HM := Lib.hid HR.out.pos
      have HZp := Lib.hid HR.out.pl
      have HI := is_any 124 HR.out
      cases h124 : Tr.nx 124 r2
      · rw [h124] at HI
        have hres : Hid (res = .ok acc r2 p2) := Lib.hid (HC.out.symm.trans (Tr.pts_stop' h124))
        clear h124
        go_wp2_with fail
        refine HI.mono ?_
        rintro e w2 ⟨rfl, hR2, B2⟩
        have HZ : Hid ((∃ vN', RS w2 base g l r2 p2 op (ns ++ post ns.length acc) ps vN' vP) ∧ Below base w w2) := Lib.hid ⟨⟨vN', hR2⟩, HB.out.trans (HR.out.bs B2)⟩
        clear hR2 B2
        go_wp2_with fail
        rw [hres.out]
        go_ret
        exact ⟨rfl, HZ.out.1, HZ.out.2, hs⟩
      · obtain ⟨r3, rfl⟩ := Tr.nx_cons h124
        rw [h124] at HI
        clear h124
        replace HC := Lib.hid (Tr.pts_go.symm.trans HC.out)
        go_wp2_with fail
        refine HI.mono ?_
        rintro e w2 ⟨rfl, hR2, B2⟩
        obtain ⟨M, hM⟩ : ∃ M, M = ns ++ post ns.length acc := ⟨_, rfl⟩
        have HMM := Lib.hid hM
        have HML := Lib.hid (show M.length = ns.length + sz acc by rw [hM, List.length_append, Tr.post_len])
        have HR2 : Hid (RS w2 base g l r3 (p2 + 1) op M ps vN' vP) := Lib.hid (by rw [hM]; exact hR2)
        have HB2 := Lib.hid (HB.out.trans (HR.out.bs B2))
        clear hR2 B2 HR HB hM
        go_wp2_with fail
        refine (branch_any HGS.out HN.out.1 HN.out.2.1 (by have := HN.out; rw [HML.out]; simp only [List.length_cons] at *; omega) HR2.out).mono ?_
        rintro e w3 hO
        cases ha : Tr.bra f0 (Tr.grp f0 d) f0 none r3 (p2 + 1) with
        | no q x =>
          rw [ha] at hO HC
          obtain ⟨rfl, B3⟩ := hO
          refine ⟨rfl, ?_⟩
          rw [← HC.out]
          exact OutN.fail (HB2.out.trans B3)
        | ok x l3 p3 =>
          rw [ha] at hO HC
          obtain ⟨rfl, ⟨vN3, hR3⟩, B3, hs3⟩ := hO
          have HR3 := Lib.hid hR3
          have HB3 := Lib.hid (HB2.out.trans B3)
          have HS3 := Lib.hid hs3
          clear hR3 B3 HR2 HB2 ha hs3
          replace HC : Hid (Tr.pts f0 (Tr.grp f0 d) f (.alt acc x) l3 p3 = res) := HC
          go_wp2_with fail
          refine (node_alt acc x HMM.out (by have := HN.out; have := HML.out; have := HS3.out; simp only [List.length_cons] at *; omega) HR3.out).mono ?_
          rintro e w5 ⟨rfl, ⟨vN5, hR5⟩, B5⟩
          have HR5 := Lib.hid hR5
          have HB5 := Lib.hid (HB3.out.trans B5)
          clear hR5 B5 HR3 HB3
          go_wp2_with fail
          go_roundw
          case rel => exact ⟨.alt acc x, l3, p3, f, _, rfl, by simp only [List.length_cons] at *; have := HS3.out; have := Tr.sz_pos x; omega, by simp only [List.length_cons, sz] at *; have := HS3.out; omega, HC, HR5, HB5⟩
          case measure => rw [HR5.out.pos, HM.out]; have e1 := HR5.out.pl; have := HZp.out; have := HS3.out; have := Tr.sz_pos x; simp only [List.length_cons] at *; omega
set_option maxRecDepth 100000 in
set_option maxHeartbeats 1600000 in
theorem group_any (f0 : Nat) : ∀ d, GroupSaid f0 d := by
  intro d
  induction d with
  | zero =>
    intro w base g l r p op ns ps vN vP pl hop hf hK h
    obtain rfl : op = 16 := by omega
    have H := Lib.hid h
    obtain ⟨c0, c1, c2, c3, c4⟩ := h.cells
    have hres : Hid (Tr.grp f0 0 pl r p = .no pl 3) := Lib.hid rfl
    clear h
    go_enter Try.func34, Try.ntmps34
    go_wp2_with fail
    refine (fails_any pl 3).mono ?_
    rintro e w3 ⟨rfl, B3⟩
    refine ⟨rfl, ?_⟩
    rw [hres.out]
    exact OutN.fail (H.out.bs (H.out.fr B3))
  | succ d ih =>
    intro w base g l r p op ns ps vN vP pl hop hf hK h
    have HGS := Lib.hid ih
    have H := Lib.hid h
    have HN := Lib.hid (And.intro hop (And.intro hf hK))
    obtain ⟨c0, c1, c2, c3, c4⟩ := h.cells
    have f2 := h.ice 2
    have ht : Tr.grp f0 (d + 1) pl r p = (Tr.pat f0 (Tr.grp f0 d) r p).bnd fun t l1 p1 => if Tr.nx 41 l1 then .ok t (l1.drop 1) (p1 + 1) else .no p1 8 := rfl
    generalize Tr.grp f0 (d + 1) pl r p = res at ht ⊢
    have HT := Lib.hid ht
    have h16 : ((op : Int) == 16) = false := by simp; omega
    have W1 : IntKind.i64.wrap ((op : Int) + 1) = ((op + 1 : Nat) : Int) := by rw [IntWalk.i64_in _ (by omega)]; rfl
    have W2 : IntKind.i64.wrap (((op + 1 : Nat) : Int) - 1) = (op : Int) := by rw [IntWalk.i64_in _ (by omega)]; omega
    have W3 : wrap64 (op : Int) = (op : Int) := by unfold wrap64; omega
    have h1 : Hid (RS (w.setCell ⟨g, 2, none⟩ (.int .i64 ((op + 1 : Nat) : Int))) base g l r p (op + 1) ns ps vN vP) := Lib.hid (h.setOp (op + 1) (by omega))
    have HB1 : Hid (Below base w (w.setCell ⟨g, 2, none⟩ (.int .i64 ((op + 1 : Nat) : Int)))) := Lib.hid (H.out.bs ((Bg.refl g w).set 2 _))
    clear h ht ih hop hf hK
    go_enter Try.func34, Try.ntmps34
    go_wp2_with fail
    refine (pattern_any HGS.out (by have := HN.out; omega) HN.out.2.1 HN.out.2.2 h1.out).mono ?_
    rintro e w2 hO
    cases ha : Tr.pat f0 (Tr.grp f0 d) r p with
    | no q x =>
      rw [ha] at hO HT
      obtain ⟨rfl, B2⟩ := hO
      refine ⟨rfl, ?_⟩
      rw [HT.out]
      exact OutN.fail (HB1.out.trans B2)
    | ok t l1 p1 =>
      rw [ha] at hO HT
      obtain ⟨rfl, ⟨vN2, hR2⟩, B2, hs2⟩ := hO
      have HR2 := Lib.hid hR2
      have HB2 := Lib.hid (HB1.out.trans B2)
      have HS2 := Lib.hid hs2
      clear hR2 B2 hs2 ha HB1 h1
      go_wp2_with fail
      have HI := is_any 41 HR2.out
      cases h41 : Tr.nx 41 l1
      · rw [h41] at HI
        replace HT : Hid (res = .no p1 8) := Lib.hid (HT.out.trans (by simp only [R.bnd, h41]; rfl))
        clear h41
        refine HI.mono ?_
        rintro e w3 ⟨rfl, hR3, B3⟩
        have HR3 : Hid (RS w3 base g l l1 p1 (op + 1) (ns ++ post ns.length t) ps vN2 vP) := Lib.hid hR3
        have HB3 := Lib.hid (HB2.out.trans (HR2.out.bs B3))
        clear hR3 B3 HR2 HB2
        have d1 := HR3.out.cells.2.1
        go_wp2_with fail
        refine (fails_any p1 8).mono ?_
        rintro e w4 ⟨rfl, B4⟩
        refine ⟨rfl, ?_⟩
        rw [HT.out]
        exact OutN.fail (HB3.out.trans (HR3.out.bs (HR3.out.fr B4)))
      · obtain ⟨l2, rfl⟩ := Tr.nx_cons h41
        rw [h41] at HI
        replace HT : Hid (res = .ok t l2 (p1 + 1)) := Lib.hid (HT.out.trans (by simp only [R.bnd, h41]; rfl))
        clear h41
        refine HI.mono ?_
        rintro e w3 ⟨rfl, hR3, B3⟩
        have HR3 : Hid (RS w3 base g l l2 (p1 + 1) (op + 1) (ns ++ post ns.length t) ps vN2 vP) := Lib.hid hR3
        have HB3 := Lib.hid (HB2.out.trans (HR2.out.bs B3))
        clear hR3 B3 HR2 HB2
        have d2 := HR3.out.cells.2.2.1
        have g2 := HR3.out.ice 2
        have HZ := Lib.hid (HR3.out.setOp op (by have := HN.out; omega))
        have HZB := Lib.hid (HB3.out.trans (HR3.out.bs ((Bg.refl g w3).set 2 (.int .i64 (op : Int)))))
        go_wp2_with fail
        rw [HT.out]
        go_ret
        exact ⟨rfl, ⟨_, HZ.out⟩, HZB.out, by have := HS2.out; simp only [List.length_cons] at *; omega⟩
end
end Go.Proofs.Ytebkaajnnjfhjaa
