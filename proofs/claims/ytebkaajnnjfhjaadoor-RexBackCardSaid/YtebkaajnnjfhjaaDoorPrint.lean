/-
  tree.Print: walked.
-/
import Derived.Test.YtebkaajnnjfhjaaDoorNode
namespace Go.Proofs.YtebkaajnnjfhjaaDoor
set_option linter.unusedVariables false
set_option linter.unusedSimpArgs false
open Go.RowKit Go.Proofs.YtebkaajnnjfhjaaDoorW.PrintWords
open Tr (Nd Pt)

/-- A part's print. -/
def pp (x : Bool × Tr.T) : List UInt8 := (if x.1 then [33] else []) ++ Tr.pn x.2
theorem join_parts (l : List (Bool × Tr.T)) : Lib.join (l.map pp) [38] = Tr.pparts l := by
  induction l with
  | nil => rfl
  | cons x r ih =>
    obtain ⟨n, t⟩ := x
    rcases r with _ | ⟨y, r⟩
    · show Lib.join [pp (n, t)] [38] = _
      rw [Lib.join_one]; rfl
    · have e : Lib.join (((n, t) :: y :: r).map pp) [38] = pp (n, t) ++ ([38] ++ Lib.join ((y :: r).map pp) [38]) := by
        simp [Lib.join, List.intercalate]
      have e2 : Tr.pparts ((n, t) :: y :: r) = (if n then [33] else []) ++ (Tr.pn t ++ 38 :: Tr.pparts (y :: r)) := rfl
      rw [e, ih, e2]
      generalize Tr.pparts (y :: r) = z
      unfold pp
      simp
theorem join_len (l : List (Bool × Tr.T)) (h : ∀ x ∈ l, (pp x).length ≤ 1392001) : (Tr.pparts l).length ≤ 1392002 * l.length := by
  induction l with
  | nil => simp [Tr.pparts]
  | cons x r ih =>
    obtain ⟨n, t⟩ := x
    have h1 := h (n, t) (by simp)
    have h2 := ih fun x hx => h x (by simp [hx])
    unfold pp at h1
    simp only [List.length_append] at h1
    rcases r with _ | ⟨y, r⟩
    · rw [Tr.pparts, List.length_append]; simp; omega
    · have e : Tr.pparts ((n, t) :: y :: r) = (if n then [33] else []) ++ (Tr.pn t ++ 38 :: Tr.pparts (y :: r)) := rfl
      rw [e, List.length_append, List.length_append, List.length_cons, List.length_cons]; omega
def ptr (ns : List Nd) (p : Pt) : Bool × Tr.T := (p.no, Tr.tr ns p.root.toNat)
theorem pp_len {ns : List Nd} {ps : List Pt} (h : Tr.Good ns ps) {p : Pt} (hp : p ∈ ps) : (pp (ptr ns p)).length ≤ 1392001 := by
  have hr := h.rt p hp
  have := Tr.pn_short h (i := p.root.toNat) (by omega)
  show ((if p.no then ([33] : List UInt8) else []) ++ Tr.pn (Tr.tr ns p.root.toNat)).length ≤ 1392001
  rw [List.length_append]
  split <;> simp <;> omega
/-- The strings of the first parts. -/
def strs (ns : List Nd) (l : List Pt) : List Value := l.map fun p => .string ⟨(pp (ptr ns p)).toArray⟩
theorem strs_len (ns : List Nd) (l : List Pt) : (strs ns l).length = l.length := by simp [strs]
theorem strs_snoc (ns : List Nd) (l : List Pt) (p : Pt) : strs ns (l ++ [p]) = strs ns l ++ [.string ⟨(pp (ptr ns p)).toArray⟩] := by simp [strs]
set_option maxRecDepth 100000 in
set_option maxHeartbeats 3200000 in
theorem print_any {A A' : Option Addr} {ns : List Nd} {ps : List Pt} (c c' : Nat) (hw : Tr.Words ns) (w : World) (hT : TreeAt w A A' ns ps) (hL : Laid w) :
    Calls Tryd.prog 9 #[.agg #[.slice A ns.length c, .slice A' ps.length c']] w fun e w' => e = .returned (.string ⟨(Tr.print ns ps).toArray⟩) ∧ Below w.heap.size w w' := by
  have hB0 : Below w.heap.size w (w.alloc (.cells #[.slice A ns.length c, .slice A' ps.length c'] 33)) := by (repeat (first | exact Below.refl _ _ | assumption | refine Below.drew ?_ | refine Below.alloc ?_ (by first | exact Nat.le_refl _ | (simp; done) | (simp; omega) | omega) _ | refine Below.setCell ?_ (by first | exact Nat.le_refl _ | (simp; done) | (simp; omega) | omega) _))
  have HR := Lib.hid (right_any c c' (hT.below hB0))
  cases hr : Tr.right ns ps
  · have HP : Hid (Tr.print ns ps = []) := Lib.hid (by unfold Tr.print; rw [hr]; rfl)
    rw [HP.out]
    rw [hr] at HR
    clear hr HP hT hL
    go_enter Tryd.func9, Tryd.ntmps9
    go_wp2_with fail
    refine (HR.out).mono ?_
    rintro e w1 ⟨rfl, B1⟩
    go_wp2_with fail
    go_ret
    exact ⟨rfl, bthen hB0 B1⟩
  · have hG := (Tr.right_iff ns ps).1 hr
    have HP : Hid (Tr.print ns ps = Tr.pparts (ps.map (ptr ns))) := Lib.hid (by unfold Tr.print; rw [hr]; rfl)
    rw [HP.out]
    rw [hr] at HR
    clear hr HP
    have HN := Lib.hid (fun i hi => node_any A A' ns ps c c' hw i hi)
    have HPR : Hid (PrAt w A A' ns ps) := Lib.hid ⟨hT, hL, hG⟩
    have HGD := Lib.hid hG
    have hp2 := hG.p2
    have hp1 := hG.p1
    have hn2 := hG.n2
    have HRT := Lib.hid hG.rt
    have HLN := Lib.hid (fun p hp => pp_len hG (p := p) hp)
    clear hG hT hL
    go_enter Tryd.func9, Tryd.ntmps9
    go_wp2_with fail
    refine (HR.out).mono ?_
    rintro e w1 ⟨rfl, B1⟩
    have hTB : Hid (TB w1 w.heap.size A A' ns.length c ps.length c') := Lib.hid (blk_below (blk_new w _) B1)
    have HB1 := bthen hB0 B1
    have kb1 : w1.cell? ⟨w.heap.size, 1, none⟩ = some (.slice A' ps.length c') := (blk_cell hTB.out 1).trans rfl
    have hlt1 : w.heap.size < w1.heap.size := by have := B1.size; simp at this; omega
    clear HR B1
    go_wp2_with fail
    clear kb1
    go_loopw [13, 3] (fun iv v wr => ∃ k : Nat, k ≤ ps.length ∧ iv = .int .i64 k ∧ wr.ownsRow w1.heap.size 9 1 v (strs ns (ps.take k)).length (strs ns (ps.take k)) ∧ Below w1.heap.size w1 wr) (fun iv _ _ => ps.length - (RowKit.intOf iv).toNat)
    case atStart => exact ⟨0, by omega, rfl, own_nil _ _ _ _, Below.refl _ _⟩
    case round =>
      obtain ⟨k, hk, rfl, HO, HB2⟩ := hrel
      have HBZ := HB1.trans (HB2.mono HB1.size)
      by_cases hlt : k < ps.length
      · obtain ⟨a, ha, hab, hN0⟩ := HPR.out.tree.parts k hlt
        subst ha
        obtain ⟨n0, n1⟩ := hN0
        replace n0 := (HBZ.cell (p := a.add (k * 2)) (by rw [add_block]; exact hab)).trans n0
        replace n1 := (HBZ.cell (p := ⟨(a.add (k * 2)).block, (a.add (k * 2)).off + 1, none⟩) (by show (a.add (k * 2)).block < _; rw [add_block]; exact hab)).trans n1
        have hbx : wr.heap[w.heap.size]? = some (.cells #[.slice A ns.length c, .slice (some a) ps.length c'] 33 (0, 0)) := blk_below hTB.out HB2
        have kb0 : wr.cell? ⟨w.heap.size, 0, none⟩ = some (.slice A ns.length c) := (blk_cell hbx 0).trans rfl
        have kb1 : wr.cell? ⟨w.heap.size, 1, none⟩ = some (.slice (some a) ps.length c') := (blk_cell hbx 1).trans rfl
        clear hbx
        have hlt2 : w.heap.size < wr.heap.size := by have := HB2.size; omega
        have hrt := HRT.out ps[k] (List.getElem_mem hlt)
        have hpl := HLN.out ps[k] (List.getElem_mem hlt)
        have hts : Hid (strs ns (ps.take (k + 1)) = strs ns (ps.take k) ++ [.string ⟨(pp (ptr ns ps[k])).toArray⟩]) := Lib.hid (by rw [take_snoc' ps k hlt, strs_snoc])
        generalize ps[k] = p at n0 n1 hts hrt hpl
        obtain ⟨x, no⟩ := p
        simp only at n0 n1 hts hrt hpl
        obtain ⟨m, rfl⟩ := Int.eq_ofNat_of_zero_le hrt.1
        have hNS := Lib.hid (HN.out m (by omega) (wr.alloc (.cells #[.int .i64 (m : Int), .bool no] 30)) (HPR.out.below (HBZ.alloc HBZ.size _)))
        have hpp : Hid (pp (ptr ns ⟨(m : Int), no⟩) = (if no then [33] else []) ++ Tr.pn (Tr.tr ns m)) := Lib.hid (by unfold pp ptr; rfl)
        rw [hpp.out] at hts hpl
        rw [List.length_append] at hpl
        generalize Tr.pn (Tr.tr ns m) = q at hNS hts hpl
        have hz : ¬ 9223372036854775807 < 1 + q.length := by omega
        cases no
        · go_wp2_with fail
          refine (hNS.out).mono ?_
          rintro e w2 ⟨rfl, B2⟩
          have kno : w2.cell? ⟨wr.heap.size, 1, none⟩ = some (.bool false) := (bcell_of B2 1).trans ((blk_cell (blk_new wr _) 1).trans rfl)
          have HB3 : Below w1.heap.size w1 w2 := (HB2.alloc HB2.size _).trans (B2.mono (by have := HB2.size; simp; omega))
          have HO2 := pw_own_below (HO.alloc (.cells #[.int .i64 (m : Int), .bool false] 30)) B2
          have hz9 := HB3.size
          have hsl : (strs ns (ps.take k)).length ≤ 20 := by rw [strs_len, List.length_take]; omega
          clear hNS B2 HO HB2 HBZ n0 n1 kb0
          go_wp2_with (at_builtin; refine print_append (w0 := w1) w1.heap.size rfl _ _ _ 9 (.string ⟨#[]⟩) 16 rfl Tryd.underlying49 (by kernel_rfl) rfl (by omega) _ (strs ns (ps.take k)) _ rfl rfl rfl (by exact HO2) (by exact HB3) hz9 (by omega) ?_; intro v1 w3 HO3 HB4 hg1 hat1)
          go_roundw
          case rel => exact ⟨k + 1, by omega, by go_num, by rw [hts.out]; exact HO3, HB4⟩
          case measure => simp [RowKit.intOf]; omega
        · go_wp2_with fail
          refine (hNS.out).mono ?_
          rintro e w2 ⟨rfl, B2⟩
          have kno : w2.cell? ⟨wr.heap.size, 1, none⟩ = some (.bool true) := (bcell_of B2 1).trans ((blk_cell (blk_new wr _) 1).trans rfl)
          have HB3 : Below w1.heap.size w1 w2 := (HB2.alloc HB2.size _).trans (B2.mono (by have := HB2.size; simp; omega))
          have HO2 := pw_own_below (HO.alloc (.cells #[.int .i64 (m : Int), .bool true] 30)) B2
          have hz9 := HB3.size
          have hsl : (strs ns (ps.take k)).length ≤ 20 := by rw [strs_len, List.length_take]; omega
          clear hNS B2 HO HB2 HBZ n0 n1 kb0
          go_wp2_with (at_builtin; refine print_append (w0 := w1) w1.heap.size rfl _ _ _ 9 (.string ⟨#[]⟩) 16 rfl Tryd.underlying49 (by kernel_rfl) rfl (by omega) _ (strs ns (ps.take k)) _ rfl rfl rfl (by exact HO2) (by exact HB3) hz9 (by omega) ?_; intro v1 w3 HO3 HB4 hg1 hat1)
          go_roundw
          case rel => exact ⟨k + 1, by omega, by go_num, by rw [hts.out]; exact HO3, HB4⟩
          case measure => simp [RowKit.intOf]; omega
      · have hkn : k = ps.length := by omega
        subst hkn
        rw [List.take_of_length_le (Nat.le_refl _)] at HO
        have hsl := strs_len ns ps
        have HO1 := HO
        rw [hsl] at HO1
        obtain ⟨g, cap, rfl, hgb, hgl⟩ := HO1.form (by omega)
        have hcap : ps.length ≤ cap := by
          rcases HO1.2 with ⟨h1, _⟩ | ⟨g', cap', cur, he, _, _, h1, h2, _⟩
          · cases h1
          · injection he with _ _ e3
            rw [e3]; exact h1
        have hcl : ∀ (j : Nat) x, (ps.map fun p => (⟨(pp (ptr ns p)).toArray⟩ : ByteArray))[j]? = some x → wr.cell? ⟨g, 0 + j, none⟩ = some (.string x) := by
          intro j x hx
          have ha : (⟨g, 0, none⟩ : Addr).add j = ⟨g, 0 + j, none⟩ := by unfold Addr.add; split <;> simp_all
          have := HO1.cells (g := g) rfl j (.string x) (by
            unfold strs
            simp only [List.getElem?_map] at hx ⊢
            cases hp : ps[j]? with
            | none => rw [hp] at hx; cases hx
            | some p => rw [hp] at hx; simp only [Option.map_some, Option.some.injEq] at hx ⊢; rw [← hx])
          rwa [ha] at this
        have hmm : (ps.map fun p => (⟨(pp (ptr ns p)).toArray⟩ : ByteArray)).map (·.data.toList) = (ps.map (ptr ns)).map pp := by simp
        have hJ := Tryd.strings_Join g 0 cap (ps.map fun p => ⟨(pp (ptr ns p)).toArray⟩) ⟨#[38]⟩ wr hcl hgl (by simp; omega) (by simpa using hcap) (by
          rw [hmm]
          show (Lib.join ((ps.map (ptr ns)).map pp) [38]).length ≤ _
          rw [join_parts]
          have := join_len (ps.map (ptr ns)) (fun x hx => by
            obtain ⟨p, hp, rfl⟩ := List.mem_map.1 hx
            exact HLN.out p hp)
          rw [List.length_map] at this
          omega)
        rw [hmm] at hJ
        have hJ2 : (Lib.join ((ps.map (ptr ns)).map pp) (⟨#[38]⟩ : ByteArray).data.toList) = Tr.pparts (ps.map (ptr ns)) := join_parts _
        rw [hJ2] at hJ
        simp only [List.length_map] at hJ
        have HJ := Lib.hid hJ
        clear hJ hJ2 hmm hcl HO HO1
        generalize hrr : Tr.pparts (ps.map (ptr ns)) = r at HJ
        have HRR := Lib.hid hrr
        clear hrr
        go_wp2_with fail
        refine (HJ.out).mono ?_
        rintro e w4 ⟨rfl, B4⟩
        go_wp2_with fail
        go_ret
        exact ⟨by rw [HRR.out]; rfl, HBZ.trans (B4.mono HBZ.size)⟩
end Go.Proofs.YtebkaajnnjfhjaaDoor
