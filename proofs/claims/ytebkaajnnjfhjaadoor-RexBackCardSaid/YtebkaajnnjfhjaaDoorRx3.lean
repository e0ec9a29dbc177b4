/-
  The reader's next, is, fails: walked.
-/
import Derived.Test.YtebkaajnnjfhjaaDoorRd
import Derived.Deep.RegionLaw
namespace Go.Proofs.YtebkaajnnjfhjaaDoor
set_option linter.unusedVariables false
set_option linter.unusedSimpArgs false
open Go.RowKit Go.Proofs.YtebkaajnnjfhjaaDoorW.PrintWords
open Tr (Nd Pt T R sz rootI post)

section
variable {w0 w : World} {base g : Nat} {l r : List UInt8} {p op : Nat} {ns : List Nd} {ps : List Pt} {vN vP : Value}
set_option maxHeartbeats 1600000 in
theorem next_none (h : RS w base g l [] p op ns ps vN vP) : Calls Tryd.prog 67 #[.pointer (some ⟨g, 0, none⟩)] w fun e w' => e = .returned (.tuple #[.int .u8 0, .bool false]) ∧ Below w.heap.size w w' := by
  obtain ⟨c0, c1, c2, c3, c4⟩ := h.cells
  have hd := h.none_
  clear h
  go_enter Tryd.func67, Tryd.ntmps67
  go_wp2_with fail
  go_quiet (fail)
  go_wp2_with fail
  refine bodyPost_ret (v := .tuple #[.int .u8 0, .bool false]) ?_ rfl ⟨rfl, by (repeat (first | (with_reducible exact Below.refl _ _) | (with_reducible refine Below.drew ?_) | (with_reducible refine rx_drewN ?_ _) | ((with_reducible apply bthen); rotate_left; assumption)))⟩
  simp [results, Tryd.results67]
set_option maxHeartbeats 1600000 in
theorem next_some {c : UInt8} (h : RS w base g l (c :: r) p op ns ps vN vP) : Calls Tryd.prog 67 #[.pointer (some ⟨g, 0, none⟩)] w fun e w' => e = .returned (.tuple #[.int .u8 c.toNat, .bool true]) ∧ Below w.heap.size w w' := by
  obtain ⟨c0, c1, c2, c3, c4⟩ := h.cells
  obtain ⟨hd, hp, hg⟩ := h.some_
  have h0 : (0 : Int) ≤ p := by omega
  have h1 : (p : Int) < (l.length : Int) := by omega
  clear h
  go_enter Tryd.func67, Tryd.ntmps67
  go_wp2_with fail
  go_quiet (fail)
  go_wp2_with fail
  go_quiet (fail)
  go_wp2_with fail
  refine bodyPost_ret (v := .tuple #[.int .u8 c.toNat, .bool true]) ?_ rfl ⟨rfl, by (repeat (first | (with_reducible exact Below.refl _ _) | (with_reducible refine Below.drew ?_) | (with_reducible refine rx_drewN ?_ _) | ((with_reducible apply bthen); rotate_left; assumption)))⟩
  simp [results, Tryd.results67]
set_option maxHeartbeats 1600000 in
theorem fails_any (p : Nat) (x : Int) : Calls Tryd.prog 43 #[.pointer (some ⟨g, 0, none⟩), .int .i64 p, .int .i64 x] w fun e w' => e = .panicked (flt p x) ∧ Below w.heap.size w w' := by
  go_enter Tryd.func43, Tryd.ntmps43
  go_wp2_with fail
  exact ⟨rfl, rfl, Below.refl _ _⟩
/-- Is a byte next? -/
theorem nx_none (x : UInt8) : Tr.nx x [] = false := rfl
theorem nx_some (x c : UInt8) (r : List UInt8) : Tr.nx x (c :: r) = (c == x) := by unfold Tr.nx; simp
set_option maxHeartbeats 1600000 in
theorem is_no {x : UInt8} (hx : Tr.nx x r = false) (h : RS w base g l r p op ns ps vN vP) : Calls Tryd.prog 56 #[.pointer (some ⟨g, 0, none⟩), .int .u8 x.toNat] w fun e w' => e = .returned (.bool false) ∧ RS w' base g l r p op ns ps vN vP ∧ Bg g w w' := by
  have H := Lib.hid h
  rcases r with _ | ⟨c, r⟩
  · have HN := Lib.hid (next_none h)
    clear h
    go_enter Tryd.func56, Tryd.ntmps56
    go_wp2_with fail
    refine HN.out.mono ?_
    rintro e w1 ⟨rfl, B1⟩
    have HB := Lib.hid B1
    clear B1
    go_wp2_with fail
    go_ret
    exact ⟨rfl, H.out.below HB.out, H.out.fr HB.out⟩
  · have HN := Lib.hid (next_some h)
    have hx' : ((c.toNat : Int) == x.toNat) = false := by rw [u8_beq, ← nx_some]; exact hx
    have hx2 : ((c.toNat : Int) != x.toNat) = true := by unfold bne; rw [hx']; rfl
    clear h hx
    go_enter Tryd.func56, Tryd.ntmps56
    go_wp2_with fail
    refine HN.out.mono ?_
    rintro e w1 ⟨rfl, B1⟩
    have HB := Lib.hid B1
    clear B1
    go_wp2_with fail
    go_ret
    exact ⟨rfl, H.out.below HB.out, H.out.fr HB.out⟩
set_option maxHeartbeats 1600000 in
theorem is_yes {x : UInt8} (h : RS w base g l (x :: r) p op ns ps vN vP) : Calls Tryd.prog 56 #[.pointer (some ⟨g, 0, none⟩), .int .u8 x.toNat] w fun e w' => e = .returned (.bool true) ∧ RS w' base g l r (p + 1) op ns ps vN vP ∧ Bg g w w' := by
  have H := Lib.hid h
  have HN := Lib.hid (next_some h)
  have hx2 : ((x.toNat : Int) != x.toNat) = false := by simp
  have hp := h.pl
  have hl := h.ll
  simp only [List.length_cons] at hp
  have W1 : IntKind.i64.wrap ((p : Int) + 1) = (p : Int) + 1 := IntWalk.i64_in _ (by omega)
  clear h hp hl
  go_enter Tryd.func56, Tryd.ntmps56
  go_wp2_with fail
  refine HN.out.mono ?_
  rintro e w1 ⟨rfl, B1⟩
  have H1 := H.out.below B1
  have HH := Lib.hid H1
  have HB := Lib.hid B1
  obtain ⟨c0, c1, c2, c3, c4⟩ := H1.cells
  have f1 := H1.ice 1
  clear B1 H1
  go_wp2_with fail
  go_ret
  refine ⟨rfl, ?_, (H.out.fr HB.out).set 1 _⟩
  have := HH.out.at_ 1 (by simp)
  simpa using this
end
end Go.Proofs.YtebkaajnnjfhjaaDoor
namespace Go.Proofs.YtebkaajnnjfhjaaDoor
set_option linter.unusedVariables false
set_option linter.unusedSimpArgs false
open Go.RowKit Go.Proofs.YtebkaajnnjfhjaaDoorW.PrintWords
open Tr (Nd Pt T R sz rootI post)

section
variable {ops : Array Oper} {o : Oper} {a : Act} {Q : Exit → Act → World → Prop} {K : Act → World → Prop}
/-- One node more behind those that there are: a step of a drawn region. -/
theorem step_node {X Y : World} (W : World) {base g : Nat} {l r : List UInt8} {p op : Nat} {ns : List Nd} {ps : List Pt} {vN vP : Value} (n : Nd) (hn : ns.length ≤ 100000) (h : RS X base g l r p op ns ps vN vP)
    (s x : Operand) (hw : Region.wanted o (yielded ops a.tmps) = true) (ho : o.op = .call { callee := .builtin .append, args := #[s, x], argTypes := #[28, 28] })
    (hs : a.eval s = vN) (hx : a.eval x = .slice (some ⟨W.heap.size, 0, none⟩) 1 1) (hW : Below X.heap.size X W) (hY : Y = W.alloc (.cells #[.int .u8 n.k, .int .u64 n.s.a, .int .u64 n.s.b, .int .u64 n.s.c, .int .u64 n.s.d, .int .i64 n.a, .int .i64 n.b, .int .i64 n.mn, .int .i64 n.mx] 27))
    (k : ∀ A1 cap1 w1, Hid (w1.ownsRow base 27 9 (.slice A1 (ns.length + 1) cap1) (ns.length + 1) ((ns ++ [n]).flatMap ndC) ∧ w1.heap[g]? = some (.cells #[.string ⟨l.toArray⟩, .int .i64 p, .int .i64 op, vN, vP] 66 (0, 0)) ∧ w1.ownsRow base 30 2 vP ps.length (ps.flatMap ptC) ∧ Below base X w1) →
      w1.cell? ⟨g, 3, none⟩ = some vN → w1.frozen? ⟨g, 3, none⟩ = false → Hid (∀ b cs t, X.heap[b]? = some (.cells cs t (0, 0)) → some b ≠ vN.ownBlock → w1.heap[b]? = some (.cells cs t (0, 0))) → K (a.put o.dst (.slice A1 (ns.length + 1) cap1)) w1) :
    if Region.wanted o (yielded ops a.tmps) = true then Oper.wp Tryd.prog o a Y K Q else K (a.put o.dst undef) Y := by
  subst hY
  have happ : ns.flatMap ndC ++ ndC n = (ns ++ [n]).flatMap ndC := by rw [List.flatMap_append]; simp
  have hz : (ns.length + 1) * 72 ≤ 140737488355328 := by omega
  have hX := h.below hW
  refine step_append_cells (w0 := W) base hw s x 28 27 (.agg #[.int .u8 0, .int .u64 0, .int .u64 0, .int .u64 0, .int .u64 0, .int .i64 0, .int .i64 0, .int .i64 0, .int .i64 0]) 9 72 ho Tryd.underlying28 (by kernel_rfl) (by rfl) (by decide) (by decide) vN ns.length (ns.flatMap ndC) (ndC n) hs hx (by rfl) (by simp [ndC, Value.oneCell']) hX.rN (Below.refl _ _) hX.lt hz ?_
  intro v1 w1 hown hb1 hg1 hat1
  rw [happ] at hown
  obtain ⟨A1, cap1, rfl⟩ := own_slice hown
  have hblk := blk_grown hX.blk hg1 (own_ne hX.rN hX.blk (by decide))
  have hrp := own_other hX.rP hg1 (own_type_ne hX.rP hX.rN (by decide))
  refine k A1 cap1 w1 (Lib.hid ⟨hown, hblk, hrp, (hW.mono h.lt).trans hb1⟩) ((blk_cell hblk 3).trans rfl) (blk_frozen hblk 3) (Lib.hid fun b cs t hb hne => blk_grown (blk_below hb hW) hg1 hne)
end
section
variable {w0 w : World} {base g : Nat} {l r : List UInt8} {p op : Nat} {ns : List Nd} {ps : List Pt} {vN vP : Value}
set_option maxHeartbeats 1600000 in
theorem rdnode_any (n : Nd) (hn : ns.length ≤ 100000) (h : RS w base g l r p op ns ps vN vP) : Calls Tryd.prog 69 #[.pointer (some ⟨g, 0, none⟩), .agg #[.int .u8 n.k, .int .u64 n.s.a, .int .u64 n.s.b, .int .u64 n.s.c, .int .u64 n.s.d, .int .i64 n.a, .int .i64 n.b, .int .i64 n.mn, .int .i64 n.mx]] w fun e w' => e = .returned (.int .i64 ns.length) ∧ (∃ vN', RS w' base g l r p op (ns ++ [n]) ps vN' vP) ∧ Below base w w' := by
  have H := Lib.hid h
  obtain ⟨c0, c1, c2, c3, c4⟩ := h.cells
  have f3 := h.ice 3
  clear h
  go_enter Tryd.func69, Tryd.ntmps69
  go_wp2_with fail
  obtain ⟨X, hX⟩ : ∃ X, X = w.alloc (.cells #[.int .u8 n.k, .int .u64 n.s.a, .int .u64 n.s.b, .int .u64 n.s.c, .int .u64 n.s.d, .int .i64 n.a, .int .i64 n.b, .int .i64 n.mn, .int .i64 n.mx] 27) := ⟨_, rfl⟩
  have hBX : Below w.heap.size w X := by rw [hX]; exact (Below.refl _ _).alloc (Nat.le_refl _) _
  have hbX : X.heap[w.heap.size]? = some (.cells #[.int .u8 n.k, .int .u64 n.s.a, .int .u64 n.s.b, .int .u64 n.s.c, .int .u64 n.s.d, .int .i64 n.a, .int .i64 n.b, .int .i64 n.mn, .int .i64 n.mx] 27 (0, 0)) := by rw [hX]; exact blk_new w _
  have hne : some w.heap.size ≠ vN.ownBlock := fun e => by have := own_lt H.out.rN _ e.symm; omega
  with_reducible change Code.wp _ _ _ _ (w.alloc (.cells #[.int .u8 n.k, .int .u64 n.s.a, .int .u64 n.s.b, .int .u64 n.s.c, .int .u64 n.s.d, .int .i64 n.a, .int .i64 n.b, .int .i64 n.mn, .int .i64 n.mx] 27))
  rw [← hX]
  have HX := Lib.hid (H.out.below hBX)
  clear c0 c1 c2 c3 c4 f3 hX
  obtain ⟨c0, c1, c2, c3, c4⟩ := HX.out.cells
  have HBX := Lib.hid hBX
  have happ : ns.flatMap ndC ++ ndC n = (ns ++ [n]).flatMap ndC := by rw [List.flatMap_append]; simp
  have hz : (ns.length + 1) * 72 ≤ 140737488355328 := by omega
  have hlt := H.out.lt
  have HH := Lib.hid (And.intro (And.intro happ hz) (And.intro hne hlt))
  generalize w.heap.size = gb at *
  have HbX := Lib.hid hbX
  have k0 : X.cell? ⟨gb, 0, none⟩ = some (.int .u8 n.k) := (blk_cell hbX 0).trans rfl
  have k1 : X.cell? ⟨gb, 1, none⟩ = some (.int .u64 n.s.a) := (blk_cell hbX 1).trans rfl
  have k2 : X.cell? ⟨gb, 2, none⟩ = some (.int .u64 n.s.b) := (blk_cell hbX 2).trans rfl
  have k3 : X.cell? ⟨gb, 3, none⟩ = some (.int .u64 n.s.c) := (blk_cell hbX 3).trans rfl
  have k4 : X.cell? ⟨gb, 4, none⟩ = some (.int .u64 n.s.d) := (blk_cell hbX 4).trans rfl
  have k5 : X.cell? ⟨gb, 5, none⟩ = some (.int .i64 n.a) := (blk_cell hbX 5).trans rfl
  have k6 : X.cell? ⟨gb, 6, none⟩ = some (.int .i64 n.b) := (blk_cell hbX 6).trans rfl
  have k7 : X.cell? ⟨gb, 7, none⟩ = some (.int .i64 n.mn) := (blk_cell hbX 7).trans rfl
  have k8 : X.cell? ⟨gb, 8, none⟩ = some (.int .i64 n.mx) := (blk_cell hbX 8).trans rfl
  clear happ hz hne hlt hbX hBX
  have f3X := HX.out.ice 3
  have c3X : ∀ o, (X.alloc o).cell? ⟨g, 3, none⟩ = some vN := fun o => (blk_cell (blk_alloc HX.out.blk o) 3).trans rfl
  go_region_law ((refine step_node X.drew n (by assumption) HX.out _ _ (by rfl) (by rfl) (by simp [Act.eval, Act.put]) (by simp [Act.eval, Act.put]) (Below.refl X.heap.size X).drew (by rfl) ?_; intro A1 cap1 w1 HO d4 d3 HGR))
  all_goals
    go_wp2_with fail
    go_ret
    obtain ⟨ho, hb, hr, hB⟩ := HO.out
    refine ⟨rfl, ⟨_, blk_put hb 3 _ rfl, ?_, ?_, HX.out.bg, HX.out.dr, HX.out.pl, HX.out.ll, HX.out.op⟩, ((HBX.out.mono HH.out.2.2).trans hB).setCell (p := ⟨g, 3, none⟩) H.out.bg _⟩
    · have := own_setCell ho (p := ⟨g, 3, none⟩) (own_ne ho hb (by decide)) (.slice A1 (ns.length + 1) cap1)
      simpa using this
    · exact own_setCell hr (p := ⟨g, 3, none⟩) (own_ne hr hb (by decide)) _
end
end Go.Proofs.YtebkaajnnjfhjaaDoor
namespace Go.Proofs.YtebkaajnnjfhjaaDoor
set_option linter.unusedVariables false
set_option linter.unusedSimpArgs false
open Go.RowKit Go.Proofs.YtebkaajnnjfhjaaDoorW.PrintWords
open Tr (Nd Pt T R sz rootI post)

/-- What a call of the reader comes to that only reads on: as the plain reader says. -/
def OutR (w : World) (base g : Nat) (l : List UInt8) (op : Nat) (ns : List Nd) (ps : List Pt) (vN vP : Value) {α : Type} (enc : α → Value) (res : R α) (e : Ending) (w' : World) : Prop :=
  match res with
  | .ok v r' p' => e = .returned (enc v) ∧ RS w' base g l r' p' op ns ps vN vP ∧ Bg g w w'
  | .no q x => e = .panicked (flt q x) ∧ Bg g w w'
section
variable {w0 w : World} {base g : Nat} {l r : List UInt8} {p op : Nat} {ns : List Nd} {ps : List Pt} {vN vP : Value}
set_option maxHeartbeats 1600000 in
theorem digit_any (h : RS w base g l r p op ns ps vN vP) : Calls Tryd.prog 84 #[.pointer (some ⟨g, 0, none⟩)] w (OutR w base g l op ns ps vN vP (fun d : Int => .int .i64 d) (Tr.digit r p)) := by
  have H := Lib.hid h
  have HF := fun z => Lib.hid (fails_any (w := z) (g := g) p 8)
  rcases r with _ | ⟨c, r⟩
  · have HN := Lib.hid (next_none h)
    clear h
    go_enter Tryd.func84, Tryd.ntmps84
    go_wp2_with fail
    refine HN.out.mono ?_
    rintro e w1 ⟨rfl, B1⟩
    have HR := Lib.hid (H.out.below B1)
    obtain ⟨c0, c1, c2, c3, c4⟩ := HR.out.cells
    have HB := Lib.hid B1
    clear B1
    go_wp2_with fail
    refine (fails_any p 8).mono ?_
    rintro e w2 ⟨rfl, B2⟩
    exact ⟨rfl, rfl, H.out.fr (HB.out.trans (B2.mono HB.out.size))⟩
  · have HN := Lib.hid (next_some h)
    have hp := h.pl
    have hl := h.ll
    simp only [List.length_cons] at hp
    have W1 : IntKind.i64.wrap ((p : Int) + 1) = (p : Int) + 1 := IntWalk.i64_in _ (by omega)
    clear h hp hl
    by_cases hd : 48 ≤ c.toNat ∧ c.toNat ≤ 57
    · have ER : Hid (Tr.digit (c :: r) p = .ok (c.toNat - 48 : Int) r (p + 1)) := Lib.hid (if_pos hd)
      rw [ER.out]
      have d1 : decide ((c.toNat : Int) < 48) = false := decide_eq_false (by omega)
      have d2 : decide (57 < (c.toNat : Int)) = false := decide_eq_false (by omega)
      have HD := Lib.hid hd
      clear hd
      go_enter Tryd.func84, Tryd.ntmps84
      go_wp2_with fail
      refine HN.out.mono ?_
      rintro e w1 ⟨rfl, B1⟩
      have HR := Lib.hid (H.out.below B1)
      obtain ⟨c0, c1, c2, c3, c4⟩ := HR.out.cells
      have f1 := HR.out.ice 1
      have HB := Lib.hid B1
      clear B1
      go_wp2_with fail
      go_ret
      refine ⟨ret_int (by have := HD.out; show ((c.toNat : Int) - 48) % 256 = (c.toNat : Int) - 48; omega), ?_, (H.out.fr HB.out).set 1 _⟩
      have := HR.out.at_ 1 (by simp)
      simpa using this
    · have ER : Hid (Tr.digit (c :: r) p = .no p 8) := Lib.hid (if_neg hd)
      rw [ER.out]
      have d0 : (decide ((c.toNat : Int) < 48) = true ∧ decide (57 < (c.toNat : Int)) = false) ∨ (decide ((c.toNat : Int) < 48) = false ∧ decide (57 < (c.toNat : Int)) = true) := by
        rcases Nat.lt_or_ge c.toNat 48 with h | h
        · exact Or.inl ⟨decide_eq_true (by omega), decide_eq_false (by omega)⟩
        · exact Or.inr ⟨decide_eq_false (by omega), decide_eq_true (by omega)⟩
      clear hd
      rcases d0 with ⟨d1, d2⟩ | ⟨d1, d2⟩
      all_goals
        go_enter Tryd.func84, Tryd.ntmps84
        go_wp2_with fail
        refine HN.out.mono ?_
        rintro e w1 ⟨rfl, B1⟩
        have HR := Lib.hid (H.out.below B1)
        obtain ⟨c0, c1, c2, c3, c4⟩ := HR.out.cells
        have HB := Lib.hid B1
        clear B1
        go_wp2_with fail
        refine (fails_any p 8).mono ?_
        rintro e w2 ⟨rfl, B2⟩
        exact ⟨rfl, rfl, H.out.fr (HB.out.trans (B2.mono HB.out.size))⟩
end
end Go.Proofs.YtebkaajnnjfhjaaDoor
