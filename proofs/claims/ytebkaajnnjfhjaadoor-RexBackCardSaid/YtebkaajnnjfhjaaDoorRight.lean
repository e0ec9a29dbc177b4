/-
  tree.Right: walked.
-/
import Derived.Test.YtebkaajnnjfhjaaDoorIdx
import Derived.Test.YtebkaajnnjfhjaaDoorRp
namespace Go.Proofs.YtebkaajnnjfhjaaDoor
set_option linter.unusedVariables false
set_option linter.unusedSimpArgs false
open Go.RowKit Go.Proofs.YtebkaajnnjfhjaaDoorW.PrintWords
open Tr (Nd Pt cntL doneN doneP DnTo RtTo)

theorem IB.far {w : World} {g : Nat} {l : List Int} (h : IB w g l) {p : Addr} (hp : g ≠ p.block) (u : Value) : IB (w.setCell p u) g l := blk_far h hp u
theorem RI.below {w w1 : World} {B : Nat} {v : Value} {l : List Int} (h : RI w B v l) (hb : Below w.heap.size w w1) : RI w1 B v l := by
  rcases h with h | ⟨g, hv, h1, h2, h3⟩
  · exact .inl h
  · exact .inr ⟨g, hv, h1, Nat.lt_of_lt_of_le h2 hb.size, fun j x hj => (hb.cell (p := ⟨g, j, none⟩) h2).trans (h3 j x hj)⟩
theorem RI.set {w : World} {B : Nat} {v : Value} {l : List Int} (h : RI w B v l) {p : Addr} (hp : p.block < B) (u : Value) : RI (w.setCell p u) B v l := by
  rcases h with h | ⟨g, hv, h1, h2, h3⟩
  · exact .inl h
  · refine .inr ⟨g, hv, h1, by simpa [World.setCell] using h2, fun j x hj => ?_⟩
    exact (World.cell?_setCell_other w p ⟨g, j, none⟩ u (fun e => by rw [e] at hp; simp at hp; omega)).trans (h3 j x hj)
theorem RI.at_ {w : World} {B n c : Nat} {A : Option Addr} {l : List Int} (h : RI w B (.slice A n c) l) {j : Nat} (hj : j < l.length) : ∃ g, A = some ⟨g, 0, none⟩ ∧ w.cell? ⟨g, j, none⟩ = some (.int .i64 l[j]) := by
  rcases h with ⟨rfl, _⟩ | ⟨g, hv, h1, h2, h3⟩
  · simp at hj
  · injection hv with hv _ _
    exact ⟨g, hv, h3 j _ (List.getElem?_eq_getElem hj)⟩
theorem cnt_bd (D : List Int) (n : Nat) (hD : D.length ≤ 100000) (m : Nat) (h : m < (cntL D n).length) : 0 ≤ (cntL D n)[m] ∧ (cntL D n)[m] ≤ 100000 := by
  rw [Tr.cntL_get]
  have := List.count_le_length (a := (m : Int)) (l := D)
  omega
theorem take_snoc' {α : Type} (l : List α) (q : Nat) (h : q < l.length) : l.take (q + 1) = l.take q ++ [l[q]] := List.take_succ_eq_append_getElem h
theorem RI.form {w : World} {B : Nat} {v : Value} {l : List Int} (h : RI w B v l) : ∃ A, v = .slice A l.length l.length := by
  rcases h with ⟨rfl, rfl⟩ | ⟨g, hv, _⟩
  · exact ⟨none, rfl⟩
  · exact ⟨_, hv⟩
/-- The tree's two slices in their box. -/
def TB (w : World) (g : Nat) (A A' : Option Addr) (n c m c' : Nat) : Prop := w.heap[g]? = some (.cells #[.slice A n c, .slice A' m c'] 33 (0, 0))

set_option maxRecDepth 100000 in
set_option maxHeartbeats 6400000 in
theorem right_any {w : World} {A A' : Option Addr} {ns : List Nd} {ps : List Pt} (c c' : Nat) (h : TreeAt w A A' ns ps) :
    Calls Tryd.prog 12 #[.agg #[.slice A ns.length c, .slice A' ps.length c']] w fun e w' => e = .returned (.bool (Tr.right ns ps)) ∧ Below w.heap.size w w' := by
  have h1 := h.nlen
  have h2 := h.plen
  by_cases g : 1 ≤ ps.length ∧ ps.length ≤ 20 ∧ ns.length ≤ 600
  · have HE : Hid (DnTo ns ns.length → RtTo ns ps ps.length → Tr.right ns ps = (!((cntL (doneP ns ps ps.length) ns.length).any (· != 1)) && !(ns.any fun n => !Tr.may n))) := Lib.hid fun hd hr => Tr.right_end g hd hr
    have HX : Hid (∀ (k : Nat) (hk : k < ns.length) (x : Int), x ∈ Tr.below ns[k] → ¬ (0 ≤ x ∧ x < (k : Int)) → Tr.right ns ps = false) := Lib.hid fun k hk x hx hb => Tr.right_bad ps hk hx hb
    have HY : Hid (∀ (k : Nat) (hk : k < ps.length), ¬ (0 ≤ ps[k].root ∧ ps[k].root < (ns.length : Int)) → Tr.right ns ps = false) := Lib.hid fun k hk hb => Tr.right_badp ns hk hb
    obtain ⟨g1, g2, g3⟩ := g
    have HM := print_make (P := Tryd.prog) 52 3 .i64 8 Tryd.underlying52 (by kernel_rfl) (by decide) ns.length (by omega)
    have d1 : decide ((ps.length : Int) < 1) = false := decide_eq_false (by omega)
    have d2 : decide ((20 : Int) < ps.length) = false := decide_eq_false (by omega)
    have d3 : decide ((600 : Int) < ns.length) = false := decide_eq_false (by omega)
    have HT := Lib.hid h
    clear h
    generalize hr : Tr.right ns ps = r at HE HX HY ⊢
    clear hr
    go_enter Tryd.func12, Tryd.ntmps12
    go_wp2_with fail
    clear HM d1 d2 d3
    have hB0 : Below w.heap.size w ((w.alloc (.cells #[.slice A ns.length c, .slice A' ps.length c'] 33)).alloc (.cells (madeCells #[Value.int .i64 0] ns.length) 3)) := by (repeat (first | exact Below.refl _ _ | assumption | refine Below.drew ?_ | refine Below.alloc ?_ (by first | exact Nat.le_refl _ | (simp; done) | (simp; omega) | omega) _ | refine Below.setCell ?_ (by first | exact Nat.le_refl _ | (simp; done) | (simp; omega) | omega) _))
    have hI0 : IB ((w.alloc (.cells #[.slice A ns.length c, .slice A' ps.length c'] 33)).alloc (.cells (madeCells #[Value.int .i64 0] ns.length) 3)) (w.heap.size + 1) (cntL (doneN ns 0) ns.length) := by
      have e : cntL (doneN ns 0) ns.length = List.replicate ns.length 0 := Tr.cntL_nil _
      rw [e]
      have := IB.made (w.alloc (.cells #[.slice A ns.length c, .slice A' ps.length c'] 33)) ns.length
      simpa using this
    have hT0 : TB ((w.alloc (.cells #[.slice A ns.length c, .slice A' ps.length c'] 33)).alloc (.cells (madeCells #[Value.int .i64 0] ns.length) 3)) w.heap.size A A' ns.length c ps.length c' := blk_alloc (blk_new w _) _
    have gs : w.heap.size + 1 < ((w.alloc (.cells #[.slice A ns.length c, .slice A' ps.length c'] 33)).alloc (.cells (madeCells #[Value.int .i64 0] ns.length) 3)).heap.size := by simp
    generalize hgu : w.heap.size + 1 = gu at hI0 gs ⊢
    generalize (w.alloc (.cells #[.slice A ns.length c, .slice A' ps.length c'] 33)).alloc (.cells (madeCells #[Value.int .i64 0] ns.length) 3) = W0 at hB0 hI0 hT0 gs ⊢
    have HI0 := Lib.hid hI0
    have HT0 := Lib.hid hT0
    have HG := Lib.hid hgu
    clear hI0 hT0 hgu
    go_loopw [33] (fun i wr => ∃ k : Nat, k ≤ ns.length ∧ i = .int .i64 k ∧ Below w.heap.size w wr ∧ gu < wr.heap.size ∧ Hid (IB wr gu (cntL (doneN ns k) ns.length)) ∧ Hid (TB wr w.heap.size A A' ns.length c ps.length c') ∧ Hid (DnTo ns k)) (fun i _ => ns.length - (RowKit.intOf i).toNat)
    case atStart => exact ⟨0, by omega, rfl, hB0, gs, HI0, HT0, Lib.hid fun i hi => absurd hi (by omega)⟩
    case round =>
      clear hB0 gs HI0 HT0
      obtain ⟨k, hk, rfl, HB, gs, HI, HTB, HD⟩ := hrel
      by_cases hlt : k < ns.length
      · obtain ⟨a, ha, hab, hN⟩ := HT.out.nodes k hlt
        subst ha
        obtain ⟨c0, c1, c2, c3, c4, c5, c6, c7, c8⟩ := hN.below HB (by rw [add_block]; exact hab)
        have hdn := Lib.hid (Tr.doneN_succ ns k hlt)
        have hds := Lib.hid (fun hc => HD.out.succ hlt hc)
        have hbad := Lib.hid (HX.out k hlt)
        have hlen := Tr.below_len ns[k]
        generalize ns[k] = n at c0 c1 c2 c3 c4 c5 c6 c7 c8 hdn hds hbad hlen hN
        clear hN hab
        have HBW := Lib.hid (below_any n)
        go_wp2_with fail
        refine (HBW.out _).mono ?_
        clear HBW c0 c1 c2 c3 c4 c5 c6 c7 c8
        rintro e w1 ⟨v, rfl, hRI, B1⟩
        have hgb : gu < (wr.alloc (.cells #[.int .u8 n.k, .int .u64 n.s.a, .int .u64 n.s.b, .int .u64 n.s.c, .int .u64 n.s.d, .int .i64 n.a, .int .i64 n.b, .int .i64 n.mn, .int .i64 n.mx] 27)).heap.size := by simp; omega
        have HI1 := Lib.hid ((HI.out.alloc (.cells #[.int .u8 n.k, .int .u64 n.s.a, .int .u64 n.s.b, .int .u64 n.s.c, .int .u64 n.s.d, .int .i64 n.a, .int .i64 n.b, .int .i64 n.mn, .int .i64 n.mx] 27)).below B1)
        have HT1 : Hid (TB w1 w.heap.size (some a) A' ns.length c ps.length c') := Lib.hid (blk_below (blk_alloc HTB.out (.cells #[.int .u8 n.k, .int .u64 n.s.a, .int .u64 n.s.b, .int .u64 n.s.c, .int .u64 n.s.d, .int .i64 n.a, .int .i64 n.b, .int .i64 n.mn, .int .i64 n.mx] 27)) B1)
        have HB1 : Below w.heap.size w w1 := (HB.alloc HB.size _).trans (B1.mono (by have := HB.size; simp; omega))
        have gs1 : gu < w1.heap.size := Nat.lt_of_lt_of_le hgb B1.size
        clear HI HTB HB B1
        generalize (wr.alloc (.cells #[.int .u8 n.k, .int .u64 n.s.a, .int .u64 n.s.b, .int .u64 n.s.c, .int .u64 n.s.d, .int .i64 n.a, .int .i64 n.b, .int .i64 n.mn, .int .i64 n.mx] 27)).heap.size = bb at hgb hRI
        generalize Tr.below n = l at hdn hds hbad hlen hRI
        obtain ⟨AV, rfl⟩ := hRI.form
        have HRI := Lib.hid hRI
        have HGB := Lib.hid hgb
        clear hRI hgb
        have hD := Tr.doneN_len ns k
        generalize Tr.doneN ns k = D at HI1 hdn hD
        go_wp2_with fail
        go_loopw [41] (fun j wi => ∃ q : Nat, q ≤ l.length ∧ j = .int .i64 q ∧ Below w.heap.size w wi ∧ gu < wi.heap.size ∧ Hid (IB wi gu (cntL (D ++ l.take q) ns.length)) ∧ Hid (TB wi w.heap.size (some a) A' ns.length c ps.length c') ∧ Hid (RI wi bb (.slice AV l.length l.length) l) ∧ Hid (∀ x ∈ l.take q, 0 ≤ x ∧ x < (k : Int))) (fun j _ => l.length - (RowKit.intOf j).toNat)
        case atStart => exact ⟨0, by omega, rfl, HB1, gs1, by rw [List.take_zero, List.append_nil]; exact HI1, HT1, HRI, Lib.hid fun x hx => by simp at hx⟩
        case round =>
          clear HB1 gs1 HI1 HT1 HRI
          obtain ⟨q, hq, rfl, HB2, gs2, HI2, HT2, HR2, HP2⟩ := hrel
          by_cases hql : q < l.length
          · obtain ⟨gv, rfl, hcell⟩ := HR2.out.at_ hql
            have hmem := Lib.hid (List.getElem_mem hql)
            have hts := Lib.hid (take_snoc' l q hql)
            generalize l[q] = x at hcell hmem hts
            by_cases hx : 0 ≤ x ∧ x < (k : Int)
            · have HX2 := Lib.hid hx
              obtain ⟨hx0, hxk⟩ := hx
              obtain ⟨m, rfl⟩ := Int.eq_ofNat_of_zero_le hx0
              have hml : m < (cntL (D ++ l.take q) ns.length).length := by rw [Tr.cntL_len]; omega
              have hcm := HI2.out.cell m hml
              have hfm := HI2.out.frozen m
              have hbd := cnt_bd (D ++ l.take q) ns.length (by rw [List.length_append, List.length_take]; omega) m hml
              have hget := Lib.hid (Tr.cntL_get (D ++ l.take q) ns.length m hml)
              generalize (cntL (D ++ l.take q) ns.length)[m] = y at hcm hbd hget
              have e1 : decide ((m : Int) < 0) = false := decide_eq_false (by omega)
              have e2 : decide ((k : Int) ≤ (m : Int)) = false := decide_eq_false (by omega)
              have e3 : (m : Int) < ns.length := by omega
              obtain ⟨hb1, hb2⟩ := hbd
              go_wp2_with fail
              go_roundw
              case rel =>
                refine ⟨q + 1, by omega, by go_num, HB2.setCell (by have := HG.out; show w.heap.size ≤ gu; omega) _, by simpa [World.setCell] using gs2, ?_, ?_, ?_, ?_⟩
                · have := HI2.out.set m (y + 1)
                  rw [Tr.cntL_bump _ _ m (y + 1) (by rw [hget.out]), List.append_assoc, ← hts.out] at this
                  exact Lib.hid this
                · exact Lib.hid (blk_far HT2.out (by have := HG.out; show w.heap.size ≠ gu; omega) _)
                · exact Lib.hid (HR2.out.set (p := ⟨gu, m, none⟩) HGB.out _)
                · refine Lib.hid fun z hz => ?_
                  rw [hts.out, List.mem_append] at hz
                  rcases hz with hz | hz
                  · exact HP2.out z hz
                  · simp only [List.mem_cons, List.not_mem_nil, or_false] at hz
                    subst hz; exact HX2.out
              case measure => simp [RowKit.intOf]; omega
            · have HF := Lib.hid (hbad.out x hmem.out hx)
              by_cases hx0 : 0 ≤ x
              · have e1 : decide (x < 0) = false := decide_eq_false (by omega)
                have e2 : decide ((k : Int) ≤ x) = true := decide_eq_true (by omega)
                clear hx
                go_wp2_with fail
                all_goals
                  go_ret
                  exact ⟨by rw [HF.out]; rfl, HB2⟩
              · have e1 : decide (x < 0) = true := decide_eq_true (by omega)
                clear hx
                go_wp2_with fail
                all_goals
                  go_ret
                  exact ⟨by rw [HF.out]; rfl, HB2⟩
          · go_wp2_with fail
            go_roundw
            case rel =>
              have e := HI2.out
              have e' := HP2.out
              rw [List.take_of_length_le (by omega)] at e e'
              rw [← hdn.out] at e
              exact ⟨k + 1, by omega, by go_num, HB2, gs2, Lib.hid e, HT2, Lib.hid (hds.out e')⟩
            case measure => simp [RowKit.intOf]; omega
      · have hkn : k = ns.length := by omega
        subst hkn
        have kb0 : wr.cell? ⟨w.heap.size, 0, none⟩ = some (.slice A ns.length c) := (blk_cell HTB.out 0).trans rfl
        have kb1 : wr.cell? ⟨w.heap.size, 1, none⟩ = some (.slice A' ps.length c') := (blk_cell HTB.out 1).trans rfl
        have HI1 : Hid (IB wr gu (cntL (doneP ns ps 0) ns.length)) := Lib.hid (by
          have := HI.out
          rw [Tr.doneN_all ns _ (Nat.le_refl _)] at this
          have e : doneP ns ps 0 = ns.flatMap Tr.below := by unfold doneP; simp
          rw [e]; exact this)
        clear HI HX
        go_wp2_with fail
        clear kb0 kb1
        go_loopw [63] (fun j wi => ∃ q : Nat, q ≤ ps.length ∧ j = .int .i64 q ∧ Below w.heap.size w wi ∧ gu < wi.heap.size ∧ Hid (IB wi gu (cntL (doneP ns ps q) ns.length)) ∧ Hid (TB wi w.heap.size A A' ns.length c ps.length c') ∧ Hid (RtTo ns ps q)) (fun j _ => ps.length - (RowKit.intOf j).toNat)
        case atStart => exact ⟨0, by omega, rfl, HB, gs, HI1, HTB, Lib.hid fun p hp => by simp at hp⟩
        case round =>
          clear HB gs HI1 HTB
          obtain ⟨q, hq, rfl, HB2, gs2, HI2, HT2, HP2⟩ := hrel
          have kb0 : wr.cell? ⟨w.heap.size, 0, none⟩ = some (.slice A ns.length c) := (blk_cell HT2.out 0).trans rfl
          have hl2 : w.heap.size < wr.heap.size := by have := HG.out; omega
          by_cases hql : q < ps.length
          · obtain ⟨a, ha, hab, hN0⟩ := HT.out.parts q hql
            subst ha
            obtain ⟨n0, n1⟩ := hN0
            replace n0 := (HB2.cell (p := a.add (q * 2)) (by rw [add_block]; exact hab)).trans n0
            replace n1 := (HB2.cell (p := ⟨(a.add (q * 2)).block, (a.add (q * 2)).off + 1, none⟩) (by show (a.add (q * 2)).block < _; rw [add_block]; exact hab)).trans n1
            have hts := Lib.hid (Tr.doneP_succ ns ps q hql)
            have hss := Lib.hid (fun hc => HP2.out.succ hql hc)
            have hbad := Lib.hid (HY.out q hql)
            have hpk := HT.out.pok ps[q] (List.getElem_mem hql)
            generalize ps[q] = p at n0 n1 hts hss hbad hpk
            obtain ⟨x, no⟩ := p
            simp only at n0 n1 hts hss hbad hpk
            obtain ⟨hpk1, hpk2⟩ := hpk
            have hD := Tr.doneP_len ns ps q
            generalize doneP ns ps q = D at HI2 hts hD
            by_cases hx : 0 ≤ x ∧ x < (ns.length : Int)
            · have HX2 := Lib.hid hx
              obtain ⟨hx0, hxk⟩ := hx
              obtain ⟨m, rfl⟩ := Int.eq_ofNat_of_zero_le hx0
              have hml : m < (cntL D ns.length).length := by rw [Tr.cntL_len]; omega
              have hcm := HI2.out.cell m hml
              have hfm := HI2.out.frozen m
              have hbd := cnt_bd D ns.length (by omega) m hml
              have hget := Lib.hid (Tr.cntL_get D ns.length m hml)
              generalize (cntL D ns.length)[m] = y at hcm hbd hget
              have e1 : decide ((m : Int) < 0) = false := decide_eq_false (by omega)
              have e2 : decide ((ns.length : Int) ≤ (m : Int)) = false := decide_eq_false (by omega)
              obtain ⟨hb1, hb2⟩ := hbd
              go_wp2_with fail
              go_roundw
              case rel =>
                refine ⟨q + 1, by omega, by go_num, (HB2.setCell (p := ⟨gu, m, none⟩) (by have := HG.out; show w.heap.size ≤ gu; omega) _).alloc (by have := HB2.size; simpa [World.setCell] using this) _, by simp [World.setCell]; omega, ?_, ?_, ?_⟩
                · have := (HI2.out.set m (y + 1)).alloc (.cells #[.int .i64 (m : Int), .bool no] 30)
                  rw [Tr.cntL_bump _ _ m (y + 1) (by rw [hget.out]), ← hts.out] at this
                  exact Lib.hid this
                · exact Lib.hid (blk_alloc (blk_far HT2.out (p := ⟨gu, m, none⟩) (by have := HG.out; show w.heap.size ≠ gu; omega) _) _)
                · exact Lib.hid (hss.out HX2.out)
              case measure => simp [RowKit.intOf]; omega
            · have HF := Lib.hid (hbad.out hx)
              by_cases hx0 : 0 ≤ x
              · have e1 : decide (x < 0) = false := decide_eq_false (by omega)
                have e2 : decide ((ns.length : Int) ≤ x) = true := decide_eq_true (by omega)
                clear hx
                go_wp2_with fail
                all_goals
                  go_ret
                  exact ⟨by rw [HF.out]; rfl, HB2.alloc HB2.size _⟩
              · have e1 : decide (x < 0) = true := decide_eq_true (by omega)
                clear hx
                go_wp2_with fail
                all_goals
                  go_ret
                  exact ⟨by rw [HF.out]; rfl, HB2.alloc HB2.size _⟩
          · have hqn : q = ps.length := by omega
            subst hqn
            have he := Lib.hid (HE.out HD.out HP2.out)
            have hCI := Lib.hid (con_int _ gu _ HI2.out (by rw [Tr.cntL_len]; omega))
            rw [Tr.cntL_len] at hCI
            have hCN := Lib.hid (con_nd ns A c _ (HT.out.nodes.below HB2) (by omega))
            clear HI2 HE HY
            generalize (cntL (doneP ns ps ps.length) ns.length).any (· != 1) = b1 at he hCI
            generalize (ns.any fun n => !Tr.may n) = b2 at he hCN
            cases b1
            all_goals
              go_wp2_with fail
              refine (hCI.out).mono ?_
              rintro e w1 ⟨rfl, rfl⟩
              go_wp2_with fail
              first
              | (go_ret
                 exact ⟨by rw [he.out]; rfl, HB2⟩)
              | (refine (hCN.out).mono ?_
                 rintro e w1 ⟨rfl, B1⟩
                 go_wp2_with fail
                 go_ret
                 exact ⟨by rw [he.out]; rfl, HB2.trans (B1.mono HB2.size)⟩)
  · rw [Tr.right_len g]
    clear h
    by_cases g1 : 1 ≤ ps.length
    · have d1 : decide ((ps.length : Int) < 1) = false := decide_eq_false (by omega)
      by_cases g2 : ps.length ≤ 20
      · have d2 : decide ((20 : Int) < ps.length) = false := decide_eq_false (by omega)
        have d3 : decide ((600 : Int) < ns.length) = true := decide_eq_true (by omega)
        clear g
        go_enter Tryd.func12, Tryd.ntmps12
        go_wp2_with fail
        all_goals
          go_ret
          exact ⟨rfl, by (repeat (first | exact Below.refl _ _ | assumption | refine Below.drew ?_ | refine Below.alloc ?_ (by first | exact Nat.le_refl _ | (simp; done) | (simp; omega) | omega) _ | refine Below.setCell ?_ (by first | exact Nat.le_refl _ | (simp; done) | (simp; omega) | omega) _))⟩
      · have d2 : decide ((20 : Int) < ps.length) = true := decide_eq_true (by omega)
        clear g
        go_enter Tryd.func12, Tryd.ntmps12
        go_wp2_with fail
        all_goals
          go_ret
          exact ⟨rfl, by (repeat (first | exact Below.refl _ _ | assumption | refine Below.drew ?_ | refine Below.alloc ?_ (by first | exact Nat.le_refl _ | (simp; done) | (simp; omega) | omega) _ | refine Below.setCell ?_ (by first | exact Nat.le_refl _ | (simp; done) | (simp; omega) | omega) _))⟩
    · have d1 : decide ((ps.length : Int) < 1) = true := decide_eq_true (by omega)
      clear g
      go_enter Tryd.func12, Tryd.ntmps12
      go_wp2_with fail
      all_goals
        go_ret
        exact ⟨rfl, by (repeat (first | exact Below.refl _ _ | assumption | refine Below.drew ?_ | refine Below.alloc ?_ (by first | exact Nat.le_refl _ | (simp; done) | (simp; omega) | omega) _ | refine Below.setCell ?_ (by first | exact Nat.le_refl _ | (simp; done) | (simp; omega) | omega) _))⟩
end Go.Proofs.YtebkaajnnjfhjaaDoor
