/-
  slices.Contains over bytes, and tree.around: walked, node's contract given.
-/
import Derived.Test.YtebkaajnnjfhjaaDoorTimes
import Derived.Test.YtebkaajnnjfhjaaDoorSz
import Derived.Test.YtebkaajnnjfhjaaDoorRight
namespace Go.Proofs.YtebkaajnnjfhjaaDoor
set_option linter.unusedVariables false
set_option linter.unusedSimpArgs false
open Go.RowKit Go.Proofs.YtebkaajnnjfhjaaDoorW.PrintWords
open Tr (Nd Pt)

/-- A block of bytes. -/
def UB (w : World) (g : Nat) (l : List Int) : Prop := w.heap[g]? = some (.cells (nums .u8 l).toArray 5 (0, 0))
theorem UB.cell {w : World} {g : Nat} {l : List Int} (h : UB w g l) (i : Nat) (hi : i < l.length) : w.cell? ⟨g, i, none⟩ = some (.int .u8 l[i]) := by
  rw [blk_cell h i]
  simp [nums, hi]
theorem UB.below {w w1 : World} {g : Nat} {l : List Int} (h : UB w g l) (hb : Below w.heap.size w w1) : UB w1 g l := blk_below h hb
theorem UB.alloc {w : World} {g : Nat} {l : List Int} (h : UB w g l) (o : Obj) : UB (w.alloc o) g l := blk_alloc h o
set_option maxHeartbeats 800000 in
theorem idx_u8 (l : List Int) (v : Int) (g : Nat) (w : World) (h : UB w g l) (hl : l.length ≤ 1000000) : Calls Tryd.prog 72 #[.slice (some ⟨g, 0, none⟩) l.length l.length, .int .u8 v] w fun e w' => ∃ i : Int, e = .returned (.int .i64 i) ∧ decide (0 ≤ i) = l.any (v == ·) ∧ w = w' := by
  have HI := Lib.hid h
  clear h
  go_enter Tryd.func72, Tryd.ntmps72
  go_wp2_with fail
  go_loop [8] (fun i => ∃ k : Nat, k ≤ l.length ∧ i = .int .i64 k ∧ Hid ((l.take k).any (v == ·) = false)) (fun i => l.length - (RowKit.intOf i).toNat)
  case atStart => exact ⟨0, by omega, rfl, Lib.hid rfl⟩
  case round =>
    obtain ⟨k, hk, rfl, HA⟩ := hrel
    by_cases hlt : k < l.length
    · have hc := HI.out.cell k hlt
      have hs := Lib.hid (any_step (v == ·) l k hlt)
      have hh := Lib.hid (any_hit (v == ·) l k hlt)
      generalize l[k] = x at hc hs hh
      cases hx : v == x
      · go_wp2_with fail
        go_round
        case rel => exact ⟨k + 1, by omega, by go_num, Lib.hid (by rw [hs.out, HA.out, hx]; rfl)⟩
        case measure => simp [RowKit.intOf]; omega
      · have HX := Lib.hid (hh.out hx)
        go_wp2_with fail
        go_ret
        exact ⟨_, rfl, by rw [HX.out]; exact decide_eq_true (by omega), rfl⟩
    · go_wp2_with fail
      go_ret
      refine ⟨_, rfl, ?_, rfl⟩
      have e := HA.out
      rw [List.take_of_length_le (by omega)] at e
      rw [e]; rfl
theorem con_u8 (l : List Int) (v : Int) (g : Nat) (w : World) (h : UB w g l) (hl : l.length ≤ 1000000) : Calls Tryd.prog 60 #[.slice (some ⟨g, 0, none⟩) l.length l.length, .int .u8 v] w fun e w' => e = .returned (.bool (l.any (v == ·))) ∧ w = w' := by
  have HI := Lib.hid (idx_u8 l v g w h hl)
  clear h
  generalize l.any (v == ·) = b at HI ⊢
  go_enter Tryd.func60, Tryd.ntmps60
  go_wp2_with fail
  refine (HI.out).mono ?_
  rintro e w1 ⟨i, rfl, hd, rfl⟩
  replace hd := Lib.hid hd
  go_wp2_with fail
  go_ret
  exact ⟨by rw [← hd.out]; rfl, rfl⟩
/-- What is asked where trees are printed. -/
structure PrAt (w : World) (A A' : Option Addr) (ns : List Nd) (ps : List Pt) : Prop where
  tree : TreeAt w A A' ns ps
  laid : Laid w
  good : Tr.Good ns ps
theorem PrAt.below {w w' : World} {A A' : Option Addr} {ns : List Nd} {ps : List Pt} (h : PrAt w A A' ns ps) (hb : Below w.heap.size w w') : PrAt w' A A' ns ps := ⟨h.tree.below hb, h.laid.below hb, h.good⟩
/-- node's contract at a number. -/
def NodeSaid (A A' : Option Addr) (ns : List Nd) (ps : List Pt) (c c' i : Nat) : Prop := ∀ w, PrAt w A A' ns ps → Calls Tryd.prog 25 #[.agg #[.slice A ns.length c, .slice A' ps.length c'], .int .i64 i] w fun e w' => e = .returned (.string ⟨(Tr.pn (Tr.tr ns i)).toArray⟩) ∧ Below w.heap.size w w'
set_option maxRecDepth 100000 in
set_option maxHeartbeats 1600000 in
theorem around_any {A A' : Option Addr} {ns : List Nd} {ps : List Pt} (c c' i : Nat) (hi : i < ns.length) (hN : NodeSaid A A' ns ps c c' i) (l : List Int) (hl : l.length ≤ 10) (g : Nat) (w : World) (hP : PrAt w A A' ns ps) (hU : UB w g l) :
    Calls Tryd.prog 45 #[.agg #[.slice A ns.length c, .slice A' ps.length c'], .int .i64 i, .slice (some ⟨g, 0, none⟩) l.length l.length] w fun e w' => e = .returned (.string ⟨(Tr.wr (l.any ((ns[i].k : Int) == ·)) (Tr.pn (Tr.tr ns i))).toArray⟩) ∧ Below w.heap.size w w' := by
  have hB0 : Below w.heap.size w (w.alloc (.cells #[.slice A ns.length c, .slice A' ps.length c'] 33)) := by (repeat (first | exact Below.refl _ _ | assumption | refine Below.drew ?_ | refine Below.alloc ?_ (by first | exact Nat.le_refl _ | (simp; done) | (simp; omega) | omega) _ | refine Below.setCell ?_ (by first | exact Nat.le_refl _ | (simp; done) | (simp; omega) | omega) _))
  have HN := Lib.hid (hN _ (hP.below hB0))
  have HU := Lib.hid (con_u8 l ns[i].k g _ (hU.alloc (.cells #[.slice A ns.length c, .slice A' ps.length c'] 33)) (by omega))
  have hsz := Tr.pn_short hP.good hi
  have hz : ¬ 9223372036854775807 < 1 + (Tr.pn (Tr.tr ns i)).length := by omega
  have hz' : ¬ 9223372036854775807 < (Tr.pn (Tr.tr ns i)).length + 1 := by omega
  have hz2 : ¬ 9223372036854775807 < (Tr.pn (Tr.tr ns i)).length + 1 + 1 := by omega
  have hz3 : ¬ 9223372036854775807 < 1 + (Tr.pn (Tr.tr ns i)).length + 1 := by omega
  obtain ⟨a, ha, hab, hNA⟩ := hP.tree.nodes i hi
  have hle := hP.good.n2
  subst ha
  have hk := (hNA.below hB0 (by rw [add_block]; exact hab)).c0
  clear hP hU hN hNA hsz
  generalize Tr.pn (Tr.tr ns i) = p at HN hz hz' hz2 hz3 ⊢
  generalize ns[i].k = kk at hk HU ⊢
  generalize l.any ((kk : Int) == ·) = b at HU ⊢
  cases b
  all_goals
    go_enter Tryd.func45, Tryd.ntmps45
    go_wp2_with fail
    refine (HU.out).mono ?_
    rintro e w1 ⟨rfl, rfl⟩
    go_wp2_with fail
    refine (HN.out).mono ?_
    rintro e w2 ⟨rfl, B2⟩
    go_wp2_with fail
    go_ret
    exact ⟨ret_str (by first | rfl | simp [Tr.wr]), bthen hB0 B2⟩
end Go.Proofs.YtebkaajnnjfhjaaDoor
