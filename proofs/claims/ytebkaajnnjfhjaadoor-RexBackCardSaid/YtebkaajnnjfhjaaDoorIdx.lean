/-
  slices.IndexFunc and ContainsFunc, over a row of counts and over nodes.
-/
import Derived.Test.YtebkaajnnjfhjaaDoorMem
namespace Go.Proofs.YtebkaajnnjfhjaaDoor
set_option linter.unusedVariables false
set_option linter.unusedSimpArgs false
open Go.RowKit Go.Proofs.YtebkaajnnjfhjaaDoorW.PrintWords
open Tr (Nd Pt)

/-- A block of whole numbers. -/
def IB (w : World) (g : Nat) (l : List Int) : Prop := w.heap[g]? = some (.cells (nums .i64 l).toArray 3 (0, 0))
theorem IB.cell {w : World} {g : Nat} {l : List Int} (h : IB w g l) (i : Nat) (hi : i < l.length) : w.cell? ⟨g, i, none⟩ = some (.int .i64 l[i]) := by
  rw [blk_cell h i]
  simp [nums, hi]
theorem IB.set {w : World} {g : Nat} {l : List Int} (h : IB w g l) (i : Nat) (x : Int) : IB (w.setCell ⟨g, i, none⟩ (.int .i64 x)) g (l.set i x) := by
  have := blk_set h i (.int .i64 x)
  have e : (nums .i64 l).toArray.setIfInBounds i (.int .i64 x) = (nums .i64 (l.set i x)).toArray := by
    simp [nums, List.map_set]
  rw [e] at this
  exact this
theorem IB.frozen {w : World} {g : Nat} {l : List Int} (h : IB w g l) (i : Nat) : w.frozen? ⟨g, i, none⟩ = false := blk_frozen h i
theorem IB.lt {w : World} {g : Nat} {l : List Int} (h : IB w g l) : g < w.heap.size := blk_lt h
theorem IB.below {w w1 : World} {g : Nat} {l : List Int} (h : IB w g l) (hb : Below w.heap.size w w1) : IB w1 g l := blk_below h hb
theorem IB.alloc {w : World} {g : Nat} {l : List Int} (h : IB w g l) (o : Obj) : IB (w.alloc o) g l := blk_alloc h o
theorem made_nums (m : Nat) : madeCells #[Value.int .i64 0] m = (nums .i64 (List.replicate m 0)).toArray := by
  apply Array.ext'
  apply List.ext_getElem
  · simp [nums, madeCells]
  · intro i h1 h2
    simp [nums, madeCells, Nat.mod_one]
theorem IB.made (w : World) (m : Nat) : IB (w.alloc (.cells (madeCells #[Value.int .i64 0] m) 3)) w.heap.size (List.replicate m 0) := by
  rw [made_nums]
  exact blk_new w _
theorem one_no (x : Int) (w : World) : Calls Tryd.prog 30 #[.int .i64 x] w fun e w' => e = .returned (.bool (x != 1)) ∧ w = w' := by
  go_enter Tryd.func30, Tryd.ntmps30
  go_wp2_with fail
  go_ret
  exact ⟨rfl, rfl⟩
theorem any_step {α : Type} (p : α → Bool) (l : List α) (k : Nat) (hk : k < l.length) : (l.take (k + 1)).any p = ((l.take k).any p || p l[k]) := by
  rw [List.take_succ_eq_append_getElem hk, List.any_append]; simp
theorem any_hit {α : Type} (p : α → Bool) (l : List α) (k : Nat) (hk : k < l.length) (h : p l[k] = true) : l.any p = true := List.any_eq_true.2 ⟨l[k], List.getElem_mem hk, h⟩
set_option maxHeartbeats 800000 in
theorem idx_int (l : List Int) (g : Nat) (w : World) (h : IB w g l) (hl : l.length ≤ 1000000) : Calls Tryd.prog 50 #[.slice (some ⟨g, 0, none⟩) l.length l.length, .func (.func 30) #[] #[]] w fun e w' => ∃ i : Int, e = .returned (.int .i64 i) ∧ decide (0 ≤ i) = l.any (· != 1) ∧ w = w' := by
  have HI := Lib.hid h
  clear h
  go_enter Tryd.func50, Tryd.ntmps50
  go_wp2_with fail
  go_loop [8] (fun i => ∃ k : Nat, k ≤ l.length ∧ i = .int .i64 k ∧ Hid ((l.take k).any (· != 1) = false)) (fun i => l.length - (RowKit.intOf i).toNat)
  case atStart => exact ⟨0, by omega, rfl, Lib.hid rfl⟩
  case round =>
    obtain ⟨k, hk, rfl, HA⟩ := hrel
    by_cases hlt : k < l.length
    · have hc := HI.out.cell k hlt
      have hs := Lib.hid (any_step (· != 1) l k hlt)
      have hh := Lib.hid (any_hit (· != 1) l k hlt)
      generalize l[k] = x at hc hs hh
      cases hx : x != 1
      · have HX := Lib.hid hx
        clear hx
        go_wp2_with fail
        refine (one_no x _).mono ?_
        rw [HX.out]
        rintro e w1 ⟨rfl, rfl⟩
        go_wp2_with fail
        go_round
        case rel => exact ⟨k + 1, by omega, by go_num, Lib.hid (by rw [hs.out, HA.out, HX.out]; rfl)⟩
        case measure => simp [RowKit.intOf]; omega
      · have HX := Lib.hid (hh.out hx)
        have HY := Lib.hid hx
        clear hx
        go_wp2_with fail
        refine (one_no x _).mono ?_
        rw [HY.out]
        rintro e w1 ⟨rfl, rfl⟩
        go_wp2_with fail
        go_ret
        exact ⟨_, rfl, by rw [HX.out]; exact decide_eq_true (by omega), rfl⟩
    · go_wp2_with fail
      go_ret
      refine ⟨_, rfl, ?_, rfl⟩
      have e := HA.out
      rw [List.take_of_length_le (by omega)] at e
      rw [e]; rfl
theorem con_int (l : List Int) (g : Nat) (w : World) (h : IB w g l) (hl : l.length ≤ 1000000) : Calls Tryd.prog 29 #[.slice (some ⟨g, 0, none⟩) l.length l.length, .func (.func 30) #[] #[]] w fun e w' => e = .returned (.bool (l.any (· != 1))) ∧ w = w' := by
  have HI := Lib.hid (idx_int l g w h hl)
  clear h
  generalize l.any (· != 1) = b at HI ⊢
  go_enter Tryd.func29, Tryd.ntmps29
  go_wp2_with fail
  refine (HI.out).mono ?_
  rintro e w1 ⟨i, rfl, hd, rfl⟩
  replace hd := Lib.hid hd
  go_wp2_with fail
  go_ret
  exact ⟨by rw [← hd.out]; rfl, rfl⟩
theorem one_may (n : Nd) (w : World) : Calls Tryd.prog 32 #[.agg #[.int .u8 n.k, .int .u64 n.s.a, .int .u64 n.s.b, .int .u64 n.s.c, .int .u64 n.s.d, .int .i64 n.a, .int .i64 n.b, .int .i64 n.mn, .int .i64 n.mx]] w fun e w' => e = .returned (.bool (!Tr.may n)) ∧ Below w.heap.size w w' := by
  have HM := Lib.hid (may_any n)
  generalize Tr.may n = b at HM ⊢
  go_enter Tryd.func32, Tryd.ntmps32
  go_wp2_with fail
  refine (HM.out _).mono ?_
  rintro e w1 ⟨rfl, B1⟩
  go_wp2_with fail
  go_ret
  exact ⟨rfl, bthen ((Below.refl _ _).alloc (Nat.le_refl _) _) B1⟩
set_option maxHeartbeats 1600000 in
theorem idx_nd (ns : List Nd) (A : Option Addr) (c : Nat) (w : World) (h : NodesAt w A ns) (hl : ns.length ≤ 1000000) : Calls Tryd.prog 51 #[.slice A ns.length c, .func (.func 32) #[] #[]] w fun e w' => ∃ i : Int, e = .returned (.int .i64 i) ∧ decide (0 ≤ i) = ns.any (fun n => !Tr.may n) ∧ Below w.heap.size w w' := by
  have HI := Lib.hid h
  clear h
  go_enter Tryd.func51, Tryd.ntmps51
  go_wp2_with fail
  go_loopw [8] (fun i wr => ∃ k : Nat, k ≤ ns.length ∧ i = .int .i64 k ∧ Hid ((ns.take k).any (fun n => !Tr.may n) = false) ∧ Below w.heap.size w wr) (fun i _ => ns.length - (RowKit.intOf i).toNat)
  case atStart => exact ⟨0, by omega, rfl, Lib.hid rfl, Below.refl _ _⟩
  case round =>
    obtain ⟨k, hk, rfl, HA, HB⟩ := hrel
    by_cases hlt : k < ns.length
    · obtain ⟨a, rfl, hab, hN⟩ := HI.out k hlt
      have hs := Lib.hid (any_step (fun n => !Tr.may n) ns k hlt)
      have hh := Lib.hid (any_hit (fun n => !Tr.may n) ns k hlt)
      obtain ⟨c0, c1, c2, c3, c4, c5, c6, c7, c8⟩ := hN.below HB (by rw [add_block]; exact hab)
      generalize ns[k] = n at c0 c1 c2 c3 c4 c5 c6 c7 c8 hs hh hN
      clear hN
      have HM := Lib.hid (one_may n)
      cases hx : Tr.may n
      all_goals
        rw [hx] at HM
        simp only [hx] at hs hh
        clear hx
        go_wp2_with fail
        refine (HM.out _).mono ?_
        rintro e w1 ⟨rfl, B1⟩
        replace B1 := HB.trans (B1.mono HB.size)
        clear HM HB c0 c1 c2 c3 c4 c5 c6 c7 c8
        go_wp2_with fail
        first
        | (go_roundw
           case rel => exact ⟨k + 1, by omega, by go_num, Lib.hid (by rw [hs.out, HA.out]; rfl), B1⟩
           case measure => simp [RowKit.intOf]; omega)
        | (go_ret
           exact ⟨_, rfl, by rw [hh.out rfl]; exact decide_eq_true (by omega), B1⟩)
    · go_wp2_with fail
      go_ret
      refine ⟨_, rfl, ?_, HB⟩
      have e := HA.out
      rw [List.take_of_length_le (by omega)] at e
      rw [e]; rfl
theorem con_nd (ns : List Nd) (A : Option Addr) (c : Nat) (w : World) (h : NodesAt w A ns) (hl : ns.length ≤ 1000000) : Calls Tryd.prog 31 #[.slice A ns.length c, .func (.func 32) #[] #[]] w fun e w' => e = .returned (.bool (ns.any fun n => !Tr.may n)) ∧ Below w.heap.size w w' := by
  have HI := Lib.hid (idx_nd ns A c w h hl)
  clear h
  generalize (ns.any fun n => !Tr.may n) = b at HI ⊢
  go_enter Tryd.func31, Tryd.ntmps31
  go_wp2_with fail
  refine (HI.out).mono ?_
  rintro e w1 ⟨i, rfl, hd, B1⟩
  replace hd := Lib.hid hd
  go_wp2_with fail
  go_ret
  exact ⟨by rw [← hd.out]; rfl, B1⟩
end Go.Proofs.YtebkaajnnjfhjaaDoor
