/-
  The reader's class: walked.
-/
import Derived.Test.YtebkaajnnjfhjaaDoorRx5
import Derived.Test.YtebkaajnnjfhjaaDoorOfs
import Derived.Test.YtebkaajnnjfhjaaDoorInr
namespace Go.Proofs.YtebkaajnnjfhjaaDoor
set_option linter.unusedVariables false
set_option linter.unusedSimpArgs false
open Go.RowKit Go.Proofs.YtebkaajnnjfhjaaDoorW.PrintWords
open Tr (Nd Pt T R sz rootI post)

namespace Tr
theorem nx_cons {x : UInt8} {r : B} (h : nx x r = true) : ∃ t, r = x :: t := by
  rcases r with _ | ⟨c, t⟩
  · cases h
  · have : c = x := by unfold nx at h; simpa using h
    exact ⟨t, by rw [this]⟩
theorem hx2_len {l : B} {x : UInt8} (h : hx2 l = some x) : 3 ≤ l.length := by
  rcases l with _ | ⟨a, _ | ⟨b, _ | ⟨c, l⟩⟩⟩
  · cases h
  · cases h
  · cases h
  · simp
theorem esc_len {pl p p' : Nat} {of l l' : B} {v : UInt8} (h : esc pl of l p = .ok v l' p') : l'.length < l.length := by
  rcases l with _ | ⟨c, t⟩
  · cases h
  · unfold esc at h
    by_cases hc : of.contains c = true
    · simp only [hc, if_true] at h
      injection h with _ h _
      rw [← h]; simp
    · simp only [hc] at h
      cases hh : hx2 (c :: t) with
      | none => rw [hh] at h; simp at h
      | some x =>
        rw [hh] at h
        have := hx2_len hh
        simp at h this
        rw [← h.2.1]; simp; omega
theorem item_len {p p' : Nat} {l l' : B} {v : UInt8} (h : item l p = .ok v l' p') : l'.length < l.length := by
  rcases l with _ | ⟨c, t⟩
  · cases h
  · unfold item at h
    by_cases hc : c = 92
    · simp only [hc, if_true] at h
      have := esc_len h
      simp; omega
    · simp only [hc, if_false] at h
      by_cases hi : inside.contains c = true
      · simp only [hi, if_true] at h; cases h
      · simp only [hi] at h
        injection h with _ h _
        rw [← h]; simp
theorem cls_end (f : Nat) (s : W4) (t : B) (p : Nat) : cls (f + 1) s (93 :: t) p = .ok s t (p + 1) := by rw [cls, show nx 93 (93 :: t) = true from rfl]; rfl
theorem cls_no1 {f : Nat} {s : W4} {l : B} {p q : Nat} {x : Int} (h : nx 93 l = false) (hi : item l p = .no q x) : cls (f + 1) s l p = .no q x := by rw [cls, h, hi]; rfl
theorem cls_one {f : Nat} {s : W4} {l l1 : B} {p p1 : Nat} {a : UInt8} (h : nx 93 l = false) (hi : item l p = .ok a l1 p1) (hd : nx 45 l1 = false) : cls (f + 1) s l p = cls f (s.or (W4.range a.toNat a.toNat)) l1 p1 := by
  rw [cls, h, hi]; simp only [R.bnd, hd]; rfl
theorem cls_no2 {f : Nat} {s : W4} {l l1 : B} {p p1 q : Nat} {x : Int} {a : UInt8} (h : nx 93 l = false) (hi : item l p = .ok a (45 :: l1) p1) (hj : item l1 (p1 + 1) = .no q x) : cls (f + 1) s l p = .no q x := by
  rw [cls, h, hi]; simp only [R.bnd, show nx 45 (45 :: l1) = true from rfl, List.drop_succ_cons, List.drop_zero, hj]; rfl
theorem cls_bad {f : Nat} {s : W4} {l l1 l2 : B} {p p1 p2 : Nat} {a b : UInt8} (h : nx 93 l = false) (hi : item l p = .ok a (45 :: l1) p1) (hj : item l1 (p1 + 1) = .ok b l2 p2) (hb : b.toNat < a.toNat) : cls (f + 1) s l p = .no (p1 + 1) 8 := by
  rw [cls, h, hi]; simp only [R.bnd, show nx 45 (45 :: l1) = true from rfl, List.drop_succ_cons, List.drop_zero, hj, hb]; rfl
theorem cls_two {f : Nat} {s : W4} {l l1 l2 : B} {p p1 p2 : Nat} {a b : UInt8} (h : nx 93 l = false) (hi : item l p = .ok a (45 :: l1) p1) (hj : item l1 (p1 + 1) = .ok b l2 p2) (hb : ¬ b.toNat < a.toNat) : cls (f + 1) s l p = cls f (s.or (W4.range a.toNat b.toNat)) l2 p2 := by
  rw [cls, h, hi]; simp only [R.bnd, show nx 45 (45 :: l1) = true from rfl, List.drop_succ_cons, List.drop_zero, hj, hb]; rfl
def kl (b : Bool) (x : R W4) : R W4 := if b then x.bnd fun s l1 p1 => .ok s.not l1 p1 else x
theorem cls_len (f : Nat) : ∀ (s : W4) (l : B) (p : Nat) (v : W4) (l' : B) (p' : Nat), cls f s l p = .ok v l' p' → l'.length < l.length := by
  induction f with
  | zero => intro s l p v l' p' h; cases h
  | succ f ih =>
    intro s l p v l' p' h
    cases h93 : nx 93 l
    · cases hi : item l p with
      | no q x => rw [cls_no1 h93 hi] at h; cases h
      | ok a l1 p1 =>
        have h1 := item_len hi
        cases h45 : nx 45 l1
        · rw [cls_one h93 hi h45] at h
          have := ih _ _ _ _ _ _ h
          omega
        · obtain ⟨l2, rfl⟩ := nx_cons h45
          simp only [List.length_cons] at h1
          cases hj : item l2 (p1 + 1) with
          | no q x => rw [cls_no2 h93 hi hj] at h; cases h
          | ok b l3 p3 =>
            have h2 := item_len hj
            by_cases hb : b.toNat < a.toNat
            · rw [cls_bad h93 hi hj hb] at h; cases h
            · rw [cls_two h93 hi hj hb] at h
              have := ih _ _ _ _ _ _ h
              omega
    · obtain ⟨t, rfl⟩ := nx_cons h93
      rw [cls_end] at h
      injection h with _ h _
      rw [← h]; simp
theorem klass_len {f : Nat} {l l' : B} {p p' : Nat} {v : W4} (h : klass f l p = .ok v l' p') : l'.length < l.length := by
  unfold klass at h
  split at h
  · rename_i h94
    obtain ⟨t, rfl⟩ := nx_cons h94
    cases hc : cls f W4.zero (List.drop 1 (94 :: t)) (p + 1) with
    | no q x => rw [hc] at h; cases h
    | ok s l1 p1 =>
      rw [hc] at h
      have := cls_len _ _ _ _ _ _ _ hc
      injection h with _ h _
      subst h
      simp at this ⊢; omega
  · exact cls_len _ _ _ _ _ _ _ h
theorem klass_kl (F : Nat) (r : B) (p : Nat) : klass F r p = kl (nx 94 r) (cls F W4.zero (if nx 94 r then r.drop 1 else r) (if nx 94 r then p + 1 else p)) := by
  unfold klass kl
  split <;> simp_all
theorem kl_no (b : Bool) (q : Nat) (x : Int) : kl b (.no q x) = .no q x := by cases b <;> rfl
end Tr
/-- Where a reader stands. -/
def posOf (w : World) (g : Nat) : Nat := match w.cell? ⟨g, 1, none⟩ with
  | some (.int _ i) => i.toNat
  | _ => 0
section
variable {w0 w w1 : World} {base g : Nat} {l r : List UInt8} {p op : Nat} {ns : List Nd} {ps : List Pt} {vN vP : Value}
theorem RS.pos (h : RS w base g l r p op ns ps vN vP) : posOf w g = p := by unfold posOf; rw [h.cells.2.1]; rfl
theorem is_any (x : UInt8) (h : RS w base g l r p op ns ps vN vP) : Calls Tryd.prog 56 #[.pointer (some ⟨g, 0, none⟩), .int .u8 x.toNat] w fun e w' => e = .returned (.bool (Tr.nx x r)) ∧ RS w' base g l (if Tr.nx x r then r.drop 1 else r) (if Tr.nx x r then p + 1 else p) op ns ps vN vP ∧ Bg g w w' := by
  cases hx : Tr.nx x r
  · exact is_no hx h
  · obtain ⟨t, rfl⟩ := Tr.nx_cons hx
    exact is_yes h
def F11 (s : W4) (a b : Nat) (k : Nat) (v : Value) (z : World) : Prop :=
  match k with
  | 0 => v = .agg #[.int .u64 s.a, .int .u64 s.b, .int .u64 s.c, .int .u64 s.d]
  | 1 => v = .int .u8 a
  | 2 => v = .int .u8 b
  | 3 => v = .agg #[.int .u64 (W4.range a b).a, .int .u64 (W4.range a b).b, .int .u64 (W4.range a b).c, .int .u64 (W4.range a b).d]
  | 4 => v = .agg #[.int .u64 (s.or (W4.range a b)).a, .int .u64 (s.or (W4.range a b)).b, .int .u64 (s.or (W4.range a b)).c, .int .u64 (s.or (W4.range a b)).d]
  | _ => True
theorem F11.below {s : W4} {a b : Nat} (k : Nat) (v : Value) (z z' : World) (h : F11 s a b k v z) (hb : Below z.heap.size z z') : F11 s a b k v z' := h
theorem RS.far {z : World} {sb : Nat} {cs : Array Value} (h : RS z base g l r p op ns ps vN vP) (hk : z.heap[sb]? = some (.cells cs 24 (0, 0))) (i : Nat) (v : Value) : RS (z.setCell ⟨sb, i, none⟩ v) base g l r p op ns ps vN vP :=
  ⟨blk_far h.blk (p := ⟨sb, i, none⟩) (blk_ne h.blk hk (by decide)) v, own_setCell h.rN (own_ne h.rN hk (by decide)) _, own_setCell h.rP (own_ne h.rP hk (by decide)) _, h.bg, h.dr, h.pl, h.ll, h.op⟩
theorem Bg.far {z : World} {sb : Nat} (h : Bg g w z) (hg : g < w.heap.size) (hs : w.heap.size ≤ sb) (i : Nat) (v : Value) : Bg g w (z.setCell ⟨sb, i, none⟩ v) :=
  ⟨h.1.setCell (p := ⟨sb, i, none⟩) (show g ≤ sb by omega) v, fun j h1 h2 => (Below.heap_setCell z ⟨sb, i, none⟩ v j (by show j ≠ sb; omega)).trans (h.2 j h1 h2)⟩
theorem res_put {z : World} {rb : Nat} {cr : Array Value} (h : RS z base g l r p op ns ps vN vP) (hB : Bg g w z) (hg : g < w.heap.size) (hrb : w.heap.size = rb) (hR : z.heap[rb]? = some (.cells cr 24 (0, 0))) (hc : cr.size = 4) (t : W4) :
    ∀ Z, Z = (((z.setCell ⟨rb, 0, none⟩ (.int .u64 t.a)).setCell ⟨rb, 1, none⟩ (.int .u64 t.b)).setCell ⟨rb, 2, none⟩ (.int .u64 t.c)).setCell ⟨rb, 3, none⟩ (.int .u64 t.d) →
    RS Z base g l r p op ns ps vN vP ∧ Bg g w Z ∧ Z.heap[rb]? = some (.cells #[.int .u64 t.a, .int .u64 t.b, .int .u64 t.c, .int .u64 t.d] 24 (0, 0)) := by
  rintro Z rfl
  obtain ⟨cr⟩ := cr
  obtain ⟨x0, x1, x2, x3, rfl⟩ : ∃ x0 x1 x2 x3, cr = [x0, x1, x2, x3] := by
    rcases cr with _ | ⟨x0, _ | ⟨x1, _ | ⟨x2, _ | ⟨x3, _ | ⟨x4, cr⟩⟩⟩⟩⟩ <;> simp at hc
    exact ⟨x0, x1, x2, x3, rfl⟩
  have h1 := blk_put hR 0 (.int .u64 t.a) rfl
  have h2 := blk_put h1 1 (.int .u64 t.b) rfl
  have h3 := blk_put h2 2 (.int .u64 t.c) rfl
  have h4 := blk_put h3 3 (.int .u64 t.d) rfl
  exact ⟨(((h.far hR 0 _).far h1 1 _).far h2 2 _).far h3 3 _, (((hB.far hg (by omega) 0 _).far hg (by omega) 1 _).far hg (by omega) 2 _).far hg (by omega) 3 _, h4⟩
theorem cls_put {z : World} {rb sb : Nat} {s : W4} {cr : Array Value} (h : RS z base g l r p op ns ps vN vP) (hB : Bg g w z) (hg : g < w.heap.size) (hrb : w.heap.size = rb) (hrs : rb < sb) (hR : z.heap[rb]? = some (.cells cr 24 (0, 0))) (hS : z.heap[sb]? = some (.cells #[.int .u64 s.a, .int .u64 s.b, .int .u64 s.c, .int .u64 s.d] 24 (0, 0))) (t : W4) :
    ∀ Z, Z = (((z.setCell ⟨sb, 0, none⟩ (.int .u64 t.a)).setCell ⟨sb, 1, none⟩ (.int .u64 t.b)).setCell ⟨sb, 2, none⟩ (.int .u64 t.c)).setCell ⟨sb, 3, none⟩ (.int .u64 t.d) →
    RS Z base g l r p op ns ps vN vP ∧ Bg g w Z ∧ Z.heap[rb]? = some (.cells cr 24 (0, 0)) ∧ Z.heap[sb]? = some (.cells #[.int .u64 t.a, .int .u64 t.b, .int .u64 t.c, .int .u64 t.d] 24 (0, 0)) := by
  rintro Z rfl
  have h1 := blk_put hS 0 (.int .u64 t.a) rfl
  have h2 := blk_put h1 1 (.int .u64 t.b) rfl
  have h3 := blk_put h2 2 (.int .u64 t.c) rfl
  have h4 := blk_put h3 3 (.int .u64 t.d) rfl
  have ne : rb ≠ sb := by omega
  exact ⟨(((h.far hS 0 _).far h1 1 _).far h2 2 _).far h3 3 _, (((hB.far hg (by omega) 0 _).far hg (by omega) 1 _).far hg (by omega) 2 _).far hg (by omega) 3 _, blk_far (blk_far (blk_far (blk_far hR (p := ⟨sb, 0, none⟩) ne _) (p := ⟨sb, 1, none⟩) ne _) (p := ⟨sb, 2, none⟩) ne _) (p := ⟨sb, 3, none⟩) ne _, h4⟩
set_option maxRecDepth 100000 in
set_option maxHeartbeats 3200000 in
theorem class_any (F : Nat) (hF : r.length < F) (h : RS w base g l r p op ns ps vN vP) : Calls Tryd.prog 82 #[.pointer (some ⟨g, 0, none⟩)] w (OutR w base g l op ns ps vN vP (fun s : W4 => .agg #[.int .u64 s.a, .int .u64 s.b, .int .u64 s.c, .int .u64 s.d]) (Tr.klass F r p)) := by
  rw [Tr.klass_kl]
  have HI := Lib.hid (fun (z : World) hz => is_any (w := z) (base := base) (g := g) (l := l) (r := r) (p := p) (op := op) (ns := ns) (ps := ps) (vN := vN) (vP := vP) 94 hz)
  have H := Lib.hid h
  have hF1 : (if Tr.nx 94 r then r.drop 1 else r).length < F := by split <;> (try simp) <;> omega
  generalize (if Tr.nx 94 r then r.drop 1 else r) = r1 at *
  generalize (if Tr.nx 94 r then p + 1 else p) = p1 at *
  generalize Tr.nx 94 r = bn at *
  generalize hcl : Tr.cls F W4.zero r1 p1 = res
  have HC := Lib.hid hcl
  have HF := Lib.hid hF1
  clear h hF hF1 hcl
  focus
    go_enter Tryd.func82, Tryd.ntmps82
    go_wp2_with fail
    refine (HI.out _ (H.out.below (by (repeat (first | exact Below.refl _ _ | assumption | refine Below.drew ?_ | refine Below.alloc ?_ (by first | exact Nat.le_refl _ | (simp; done) | (simp; omega) | omega) _ | refine Below.setCell ?_ (by first | exact Nat.le_refl _ | (simp; done) | (simp; omega) | omega) _))))).mono ?_
    rintro e w1 ⟨rfl, hR1, B1⟩
    go_wp2_with fail
    have HG : Hid (g < w.heap.size) := Lib.hid H.out.glt
    have HBW : Hid (Bg g w (w.alloc (.cells #[.int .u64 0, .int .u64 0, .int .u64 0, .int .u64 0] 24))) := Lib.hid ((Bg.refl g w).call HG.out (by (repeat (first | exact Below.refl _ _ | assumption | refine Below.drew ?_ | refine Below.alloc ?_ (by first | exact Nat.le_refl _ | (simp; done) | (simp; omega) | omega) _ | refine Below.setCell ?_ (by first | exact Nat.le_refl _ | (simp; done) | (simp; omega) | omega) _))))
    have hsz : w.heap.size + 1 ≤ w1.heap.size := by have := B1.1.size; simpa using this
    have HRB : Hid (w1.heap[w.heap.size]? = some (.cells #[.int .u64 0, .int .u64 0, .int .u64 0, .int .u64 0] 24 (0, 0))) := Lib.hid ((B1.blk (by simp) (by have := HG.out; omega)).trans (blk_new w _))
    have HBX : Hid (Bg g w (w1.alloc (.cells #[.int .u64 0, .int .u64 0, .int .u64 0, .int .u64 0] 24))) := Lib.hid ((HBW.out.trans B1).call HG.out (by (repeat (first | exact Below.refl _ _ | assumption | refine Below.drew ?_ | refine Below.alloc ?_ (by first | exact Nat.le_refl _ | (simp; done) | (simp; omega) | omega) _ | refine Below.setCell ?_ (by first | exact Nat.le_refl _ | (simp; done) | (simp; omega) | omega) _))))
    have HRX := Lib.hid (hR1.below (w' := w1.alloc (.cells #[.int .u64 0, .int .u64 0, .int .u64 0, .int .u64 0] 24)) (by (repeat (first | exact Below.refl _ _ | assumption | refine Below.drew ?_ | refine Below.alloc ?_ (by first | exact Nat.le_refl _ | (simp; done) | (simp; omega) | omega) _ | refine Below.setCell ?_ (by first | exact Nat.le_refl _ | (simp; done) | (simp; omega) | omega) _))))
    have HRBX : Hid ((w1.alloc (.cells #[.int .u64 0, .int .u64 0, .int .u64 0, .int .u64 0] 24)).heap[w.heap.size]? = some (.cells #[.int .u64 0, .int .u64 0, .int .u64 0, .int .u64 0] 24 (0, 0))) := Lib.hid (blk_alloc HRB.out _)
    have HSBX : Hid ((w1.alloc (.cells #[.int .u64 0, .int .u64 0, .int .u64 0, .int .u64 0] 24)).heap[w1.heap.size]? = some (.cells #[.int .u64 0, .int .u64 0, .int .u64 0, .int .u64 0] 24 (0, 0))) := Lib.hid (blk_new w1 _)
    have HS : Hid (w.heap.size < w1.heap.size ∧ g < w.heap.size) := Lib.hid ⟨by omega, HG.out⟩
    clear HBW HRB hR1 B1 hsz HG
    generalize w1.alloc (.cells #[.int .u64 0, .int .u64 0, .int .u64 0, .int .u64 0] 24) = W1 at *
    generalize w1.heap.size = sb at *
    obtain ⟨rb, hrb⟩ : ∃ rb, w.heap.size = rb := ⟨_, rfl⟩
    have HSW : Hid (g < w.heap.size ∧ w.heap.size = rb) := Lib.hid ⟨HS.out.2, hrb⟩
    rw [hrb] at HRBX HS ⊢
    clear hrb
    go_loopw [] (fun wr => ∃ (s : W4) (r2 : List UInt8) (p2 f : Nat), s.Ok ∧ r2.length < f ∧ Hid (Tr.cls f s r2 p2 = res) ∧ Hid (RS wr base g l r2 p2 op ns ps vN vP) ∧ Hid (Bg g w wr) ∧ Hid (wr.heap[rb]? = some (.cells #[.int .u64 0, .int .u64 0, .int .u64 0, .int .u64 0] 24 (0, 0))) ∧ Hid (wr.heap[sb]? = some (.cells #[.int .u64 s.a, .int .u64 s.b, .int .u64 s.c, .int .u64 s.d] 24 (0, 0)))) (fun wr => l.length - posOf wr g)
    case atStart => exact ⟨W4.zero, r1, p1, F, ⟨by decide, by decide, by decide, by decide⟩, HF.out, HC, HRX, HBX, HRBX, HSBX⟩
    case round =>
      clear HC HRX HBX HRBX HSBX
      obtain ⟨s, r2, p2, f, hs, hf, HC, HR, HB, HRB, HSB⟩ := hrel
      rcases f with _ | f
      · omega
      have HI93 := Lib.hid (is_any 93 HR.out)
      have HM := Lib.hid HR.out.pos
      have HZp := Lib.hid HR.out.pl
      cases h93 : Tr.nx 93 r2
      · rw [h93] at HI93
        have H93 := Lib.hid h93
        clear h93
        go_wp2_with fail
        refine HI93.out.mono ?_
        rintro e w3 ⟨rfl, hR3, B3⟩
        have HR3 := Lib.hid hR3
        have HB3 := Lib.hid (HB.out.trans B3)
        have HRB3 := Lib.hid ((B3.blk (blk_lt HRB.out) (by have := HS.out; omega)).trans HRB.out)
        have HSB3 := Lib.hid ((B3.blk (blk_lt HSB.out) (by have := HS.out; omega)).trans HSB.out)
        clear hR3 B3 HR HB HRB HSB
        go_wp2_with fail
        refine (item_any HR3.out).mono ?_
        rintro e w4 hO
        cases hit : Tr.item r2 p2 with
        | no q x =>
          rw [show (if false = true then r2.drop 1 else r2) = r2 from rfl, show (if false = true then p2 + 1 else p2) = p2 from rfl, hit] at hO
          obtain ⟨rfl, B4⟩ := hO
          refine ⟨rfl, ?_⟩
          have hres : res = .no q x := HC.out.symm.trans (Tr.cls_no1 H93.out hit)
          rw [hres, Tr.kl_no]
          exact OutR.fail (HB3.out.trans B4)
        | ok a l1 q1 =>
          rw [show (if false = true then r2.drop 1 else r2) = r2 from rfl, show (if false = true then p2 + 1 else p2) = p2 from rfl, hit] at hO
          obtain ⟨rfl, hR4, B4⟩ := hO
          have HR4 := Lib.hid hR4
          have HB4 := Lib.hid (HB3.out.trans B4)
          have HRB4 := Lib.hid ((B4.blk (blk_lt HRB3.out) (by have := HS.out; omega)).trans HRB3.out)
          have HSB4 := Lib.hid ((B4.blk (blk_lt HSB3.out) (by have := HS.out; omega)).trans HSB3.out)
          have HL := Lib.hid (Tr.item_len hit)
          have HIT := Lib.hid hit
          clear hit hR4 B4 HR3 HB3 HRB3 HSB3
          have HI45 := Lib.hid (is_any 45 HR4.out)
          cases h45 : Tr.nx 45 l1
          · rw [h45] at HI45
            have H45 := Lib.hid h45
            clear h45
            go_wp2_with fail
            refine HI45.out.mono ?_
            rintro e w5 ⟨rfl, hR5, B5⟩
            have HR5 := Lib.hid hR5
            have HB5 := Lib.hid (HB4.out.trans B5)
            have HRB5 := Lib.hid ((B5.blk (blk_lt HRB4.out) (by have := HS.out; omega)).trans HRB4.out)
            have HSB5 := Lib.hid ((B5.blk (blk_lt HSB4.out) (by have := HS.out; omega)).trans HSB4.out)
            clear hR5 B5 HR4 HB4 HRB4 HSB4
            go_wp2_with fail
            have HK : Hid (∀ z, Below w5.heap.size w5 z → z.cell? ⟨sb, 0, none⟩ = some (.int .u64 s.a) ∧ z.cell? ⟨sb, 1, none⟩ = some (.int .u64 s.b) ∧ z.cell? ⟨sb, 2, none⟩ = some (.int .u64 s.c) ∧ z.cell? ⟨sb, 3, none⟩ = some (.int .u64 s.d) ∧ z.frozen? ⟨sb, 0, none⟩ = false ∧ z.frozen? ⟨sb, 1, none⟩ = false ∧ z.frozen? ⟨sb, 2, none⟩ = false ∧ z.frozen? ⟨sb, 3, none⟩ = false) := Lib.hid (fun z hz => by
              have k := blk_below HSB5.out hz
              exact ⟨(blk_cell k 0).trans rfl, (blk_cell k 1).trans rfl, (blk_cell k 2).trans rfl, (blk_cell k 3).trans rfl, blk_frozen k 0, blk_frozen k 1, blk_frozen k 2, blk_frozen k 3⟩)
            refine region_by 5 (by kernel_rfl) rfl (fun x => { tmps := #[.pointer (some ⟨g, 0, none⟩), undef, .pointer (some ⟨rb, 0, none⟩), .bool bn, .pointer (some ⟨sb, 0, none⟩), .int .u8 a.toNat, .int .u8 a.toNat, u7, .pointer (some ⟨g, 0, none⟩), .bool bn, .pointer (some ⟨g, 0, none⟩), .bool false, .bool true, .pointer (some ⟨g, 0, none⟩), .int .u8 a.toNat, .int .u8 a.toNat, .pointer (some ⟨g, 0, none⟩), .bool false, u18, u19, u20, u21, u22, u23, u24, u25, u26, u27, u28, u29, x 0, x 1, x 2, x 3, x 4, undef, undef, undef, undef], defers := [] }) (fun i => match i with | 0 => u30 | 1 => u31 | 2 => u32 | 3 => u33 | _ => u34) rfl (F11 s a.toNat a.toNat) F11.below (by kernel_rfl) (by kernel_rfl) ?_ ?_
            · refine StepsAre.cons ?_ (StepsAre.cons ?_ (StepsAre.cons ?_ (StepsAre.cons ?_ (StepsAre.cons ?_ StepsAre.nil))))
              · refine StepIs.mk (fun x v => by kernel_rfl) (fun x z hb hdep => wpOp_step rfl (fun K hK => ?_))
                have HKK := Lib.hid hK
                clear hK
                obtain ⟨k0, k1, k2, k3, -⟩ := HK.out z ((Below.drew (Below.refl _ _)).trans hb)
                clear hdep
                go_simp
                exact HKK.out _ _ ⟨.agg #[.int .u64 s.a, .int .u64 s.b, .int .u64 s.c, .int .u64 s.d], (by kernel_rfl), Below.refl _ _, rfl⟩
              · refine StepIs.mk (fun x v => by kernel_rfl) (fun x z hb hdep => wpOp_step rfl (fun K hK => ?_))
                have HKK := Lib.hid hK
                clear hK hdep
                go_simp
                exact HKK.out _ _ ⟨.int .u8 a.toNat, (by kernel_rfl), Below.refl _ _, rfl⟩
              · refine StepIs.mk (fun x v => by kernel_rfl) (fun x z hb hdep => wpOp_step rfl (fun K hK => ?_))
                have HKK := Lib.hid hK
                clear hK hdep
                go_simp
                exact HKK.out _ _ ⟨.int .u8 a.toNat, (by kernel_rfl), Below.refl _ _, rfl⟩
              · refine StepIs.mk (fun x v => by kernel_rfl) (fun x z hb hdep => wpOp_step rfl (fun K hK => ?_))
                have HKK := Lib.hid hK
                clear hK
                have h1 : x 1 = .int .u8 a.toNat := hdep ⟨1, .data⟩ (by simp) rfl
                have h2 : x 2 = .int .u8 a.toNat := hdep ⟨2, .data⟩ (by simp) rfl
                clear hdep
                go_simp
                go_at_call 92
                refine (range_any a.toNat a.toNat a.toNat_lt a.toNat_lt z).mono ?_
                rintro e z1 ⟨rfl, hz1⟩
                go_simp
                exact HKK.out _ _ ⟨.agg #[.int .u64 (W4.range a.toNat a.toNat).a, .int .u64 (W4.range a.toNat a.toNat).b, .int .u64 (W4.range a.toNat a.toNat).c, .int .u64 (W4.range a.toNat a.toNat).d], (by dsimp only; rw [h1, h2]; kernel_rfl), hz1, rfl⟩
              · refine StepIs.mk (fun x v => by kernel_rfl) (fun x z hb hdep => wpOp_step rfl (fun K hK => ?_))
                have HKK := Lib.hid hK
                clear hK
                have h1 : x 0 = .agg #[.int .u64 s.a, .int .u64 s.b, .int .u64 s.c, .int .u64 s.d] := hdep ⟨0, .data⟩ (by simp) rfl
                have h2 : x 3 = .agg #[.int .u64 (W4.range a.toNat a.toNat).a, .int .u64 (W4.range a.toNat a.toNat).b, .int .u64 (W4.range a.toNat a.toNat).c, .int .u64 (W4.range a.toNat a.toNat).d] := hdep ⟨3, .data⟩ (by simp) rfl
                clear hdep
                go_simp
                go_at_call 91
                refine (or_any s (W4.range a.toNat a.toNat) hs (W4.ok_range _ _) z).mono ?_
                rintro e z1 ⟨rfl, hz1⟩
                go_simp
                exact HKK.out _ _ ⟨.agg #[.int .u64 (s.or (W4.range a.toNat a.toNat)).a, .int .u64 (s.or (W4.range a.toNat a.toNat)).b, .int .u64 (s.or (W4.range a.toNat a.toNat)).c, .int .u64 (s.or (W4.range a.toNat a.toNat)).d], (by dsimp only; rw [h1, h2]; kernel_rfl), hz1, rfl⟩
            · intro x z hb hF
              refine wpOp_step rfl (fun K hK => ?_)
              have HKK := Lib.hid hK
              clear hK
              have h4 : x 4 = .agg #[.int .u64 (s.or (W4.range a.toNat a.toNat)).a, .int .u64 (s.or (W4.range a.toNat a.toNat)).b, .int .u64 (s.or (W4.range a.toNat a.toNat)).c, .int .u64 (s.or (W4.range a.toNat a.toNat)).d] := hF 4 (by decide)
              have HZ := Lib.hid ((Below.drew (Below.refl w5.heap.size w5)).trans hb)
              obtain ⟨-, -, -, -, f0, f1, f2, f3⟩ := HK.out z HZ.out
              obtain ⟨k0, k1, k2, k3, -⟩ := HK.out z HZ.out
              clear hb hF
              go_simp
              refine HKK.out _ _ ?_
              clear HKK h4 k0 k1 k2 k3 f0 f1 f2 f3
              have HRz := Lib.hid (HR5.out.below HZ.out)
              have HBz := Lib.hid (HB5.out.call HSW.out.1 HZ.out)
              have HRBz := Lib.hid (blk_below HRB5.out HZ.out)
              have HSBz := Lib.hid (blk_below HSB5.out HZ.out)
              have HPUT := Lib.hid (cls_put HRz.out HBz.out HSW.out.1 HSW.out.2 HS.out.1 HRBz.out HSBz.out (s.or (W4.range a.toNat a.toNat)) _ rfl)
              clear HR5 HB5 HRB5 HSB5 HZ HK
              go_wp2_with fail
              go_roundw
              case rel => exact ⟨s.or (W4.range a.toNat a.toNat), l1, q1, f, W4.ok_or hs (W4.ok_range _ _), by have := HL.out; omega, Lib.hid ((Tr.cls_one H93.out HIT.out H45.out).symm.trans HC.out), Lib.hid HPUT.out.1, Lib.hid HPUT.out.2.1, Lib.hid HPUT.out.2.2.1, Lib.hid HPUT.out.2.2.2⟩
              case measure => rw [HPUT.out.1.pos, HM.out]; have := HL.out; have e1 : q1 + l1.length = l.length := HRz.out.pl; have := HZp.out; show l.length - q1 < l.length - p2; omega
          · obtain ⟨l2, rfl⟩ := Tr.nx_cons h45
            rw [h45] at HI45
            have H45 := Lib.hid h45
            clear h45
            go_wp2_with fail
            refine HI45.out.mono ?_
            rintro e w4d ⟨rfl, hR5, B5⟩
            have HR5 : Hid (RS w4d base g l l2 (q1 + 1) op ns ps vN vP) := Lib.hid hR5
            have HB5 := Lib.hid (HB4.out.trans B5)
            have HRB5 := Lib.hid ((B5.blk (blk_lt HRB4.out) (by have := HS.out; omega)).trans HRB4.out)
            have HSB5 := Lib.hid ((B5.blk (blk_lt HSB4.out) (by have := HS.out; omega)).trans HSB4.out)
            clear hR5 B5 HR4 HB4 HRB4 HSB4
            have d1 := HR5.out.cells.2.1
            go_wp2_with fail
            refine (item_any HR5.out).mono ?_
            rintro e w5 hO
            have HR6 := HR5
            have HB6 := HB5
            have HRB6 := HRB5
            have HSB6 := HSB5
            clear HR5 HB5 HRB5 HSB5 d1
            cases hit : Tr.item l2 (q1 + 1) with
            | no q x =>
              rw [hit] at hO
              obtain ⟨rfl, B4⟩ := hO
              refine ⟨rfl, ?_⟩
              have hres : res = .no q x := HC.out.symm.trans (Tr.cls_no2 H93.out HIT.out hit)
              rw [hres, Tr.kl_no]
              exact OutR.fail (HB6.out.trans B4)
            | ok b l3 q3 =>
              rw [hit] at hO
              obtain ⟨rfl, hR5, B5⟩ := hO
              have HR5 := Lib.hid hR5
              have HB5 := Lib.hid (HB6.out.trans B5)
              have HRB5 := Lib.hid ((B5.blk (blk_lt HRB6.out) (by have := HS.out; omega)).trans HRB6.out)
              have HSB5 := Lib.hid ((B5.blk (blk_lt HSB6.out) (by have := HS.out; omega)).trans HSB6.out)
              have HL3 := Lib.hid (Tr.item_len hit)
              have HIT3 := Lib.hid hit
              clear hit hR5 B5 HR6 HB6 HRB6 HSB6
              by_cases hba : b.toNat < a.toNat
              · have hbd : decide ((b.toNat : Int) < a.toNat) = true := decide_eq_true (by omega)
                have HBA := Lib.hid hba
                clear hba
                go_wp2_with fail
                refine (fails_any (q1 + 1) 8).mono ?_
                rintro e w7 ⟨rfl, B7⟩
                refine ⟨rfl, ?_⟩
                have hres : res = .no (q1 + 1) 8 := HC.out.symm.trans (Tr.cls_bad H93.out HIT.out HIT3.out HBA.out)
                rw [hres, Tr.kl_no]
                exact OutR.fail (HB5.out.call HSW.out.1 B7)
              · have hbd : decide ((b.toNat : Int) < a.toNat) = false := decide_eq_false (by omega)
                have HBA := Lib.hid hba
                clear hba
                go_wp2_with fail
                clear hbd
                generalize decide (b.toNat < a.toNat) = bd
                have HK : Hid (∀ z, Below w5.heap.size w5 z → z.cell? ⟨sb, 0, none⟩ = some (.int .u64 s.a) ∧ z.cell? ⟨sb, 1, none⟩ = some (.int .u64 s.b) ∧ z.cell? ⟨sb, 2, none⟩ = some (.int .u64 s.c) ∧ z.cell? ⟨sb, 3, none⟩ = some (.int .u64 s.d) ∧ z.frozen? ⟨sb, 0, none⟩ = false ∧ z.frozen? ⟨sb, 1, none⟩ = false ∧ z.frozen? ⟨sb, 2, none⟩ = false ∧ z.frozen? ⟨sb, 3, none⟩ = false) := Lib.hid (fun z hz => by
                  have k := blk_below HSB5.out hz
                  exact ⟨(blk_cell k 0).trans rfl, (blk_cell k 1).trans rfl, (blk_cell k 2).trans rfl, (blk_cell k 3).trans rfl, blk_frozen k 0, blk_frozen k 1, blk_frozen k 2, blk_frozen k 3⟩)
                refine region_by 5 (by kernel_rfl) rfl (fun x => { tmps := #[.pointer (some ⟨g, 0, none⟩), undef, .pointer (some ⟨rb, 0, none⟩), .bool bn, .pointer (some ⟨sb, 0, none⟩), .int .u8 a.toNat, .int .u8 b.toNat, .int .i64 ((q1 : Int) + 1), .pointer (some ⟨g, 0, none⟩), .bool bn, .pointer (some ⟨g, 0, none⟩), .bool false, .bool true, .pointer (some ⟨g, 0, none⟩), .int .u8 a.toNat, .int .u8 a.toNat, .pointer (some ⟨g, 0, none⟩), .bool true, .pointer (some ⟨g, 0, none⟩), .pointer (some ⟨g, 0, none⟩), .pointer (some ⟨g, 1, none⟩), .int .i64 ((q1 : Int) + 1), .pointer (some ⟨g, 0, none⟩), .int .u8 b.toNat, .int .u8 b.toNat, .int .u8 a.toNat, .bool bd, u27, u28, u29, x 0, x 1, x 2, x 3, x 4, undef, undef, undef, undef], defers := [] }) (fun i => match i with | 0 => u30 | 1 => u31 | 2 => u32 | 3 => u33 | _ => u34) rfl (F11 s a.toNat b.toNat) F11.below (by kernel_rfl) (by kernel_rfl) ?_ ?_
                · refine StepsAre.cons ?_ (StepsAre.cons ?_ (StepsAre.cons ?_ (StepsAre.cons ?_ (StepsAre.cons ?_ StepsAre.nil))))
                  · refine StepIs.mk (fun x v => by kernel_rfl) (fun x z hb hdep => wpOp_step rfl (fun K hK => ?_))
                    have HKK := Lib.hid hK
                    clear hK
                    obtain ⟨k0, k1, k2, k3, -⟩ := HK.out z ((Below.drew (Below.refl _ _)).trans hb)
                    clear hdep
                    go_simp
                    exact HKK.out _ _ ⟨.agg #[.int .u64 s.a, .int .u64 s.b, .int .u64 s.c, .int .u64 s.d], (by kernel_rfl), Below.refl _ _, rfl⟩
                  · refine StepIs.mk (fun x v => by kernel_rfl) (fun x z hb hdep => wpOp_step rfl (fun K hK => ?_))
                    have HKK := Lib.hid hK
                    clear hK hdep
                    go_simp
                    exact HKK.out _ _ ⟨.int .u8 a.toNat, (by kernel_rfl), Below.refl _ _, rfl⟩
                  · refine StepIs.mk (fun x v => by kernel_rfl) (fun x z hb hdep => wpOp_step rfl (fun K hK => ?_))
                    have HKK := Lib.hid hK
                    clear hK hdep
                    go_simp
                    exact HKK.out _ _ ⟨.int .u8 b.toNat, (by kernel_rfl), Below.refl _ _, rfl⟩
                  · refine StepIs.mk (fun x v => by kernel_rfl) (fun x z hb hdep => wpOp_step rfl (fun K hK => ?_))
                    have HKK := Lib.hid hK
                    clear hK
                    have h1 : x 1 = .int .u8 a.toNat := hdep ⟨1, .data⟩ (by simp) rfl
                    have h2 : x 2 = .int .u8 b.toNat := hdep ⟨2, .data⟩ (by simp) rfl
                    clear hdep
                    go_simp
                    go_at_call 92
                    refine (range_any a.toNat b.toNat a.toNat_lt b.toNat_lt z).mono ?_
                    rintro e z1 ⟨rfl, hz1⟩
                    go_simp
                    exact HKK.out _ _ ⟨.agg #[.int .u64 (W4.range a.toNat b.toNat).a, .int .u64 (W4.range a.toNat b.toNat).b, .int .u64 (W4.range a.toNat b.toNat).c, .int .u64 (W4.range a.toNat b.toNat).d], (by dsimp only; rw [h1, h2]; kernel_rfl), hz1, rfl⟩
                  · refine StepIs.mk (fun x v => by kernel_rfl) (fun x z hb hdep => wpOp_step rfl (fun K hK => ?_))
                    have HKK := Lib.hid hK
                    clear hK
                    have h1 : x 0 = .agg #[.int .u64 s.a, .int .u64 s.b, .int .u64 s.c, .int .u64 s.d] := hdep ⟨0, .data⟩ (by simp) rfl
                    have h2 : x 3 = .agg #[.int .u64 (W4.range a.toNat b.toNat).a, .int .u64 (W4.range a.toNat b.toNat).b, .int .u64 (W4.range a.toNat b.toNat).c, .int .u64 (W4.range a.toNat b.toNat).d] := hdep ⟨3, .data⟩ (by simp) rfl
                    clear hdep
                    go_simp
                    go_at_call 91
                    refine (or_any s (W4.range a.toNat b.toNat) hs (W4.ok_range _ _) z).mono ?_
                    rintro e z1 ⟨rfl, hz1⟩
                    go_simp
                    exact HKK.out _ _ ⟨.agg #[.int .u64 (s.or (W4.range a.toNat b.toNat)).a, .int .u64 (s.or (W4.range a.toNat b.toNat)).b, .int .u64 (s.or (W4.range a.toNat b.toNat)).c, .int .u64 (s.or (W4.range a.toNat b.toNat)).d], (by dsimp only; rw [h1, h2]; kernel_rfl), hz1, rfl⟩
                · intro x z hb hF
                  refine wpOp_step rfl (fun K hK => ?_)
                  have HKK := Lib.hid hK
                  clear hK
                  have h4 : x 4 = .agg #[.int .u64 (s.or (W4.range a.toNat b.toNat)).a, .int .u64 (s.or (W4.range a.toNat b.toNat)).b, .int .u64 (s.or (W4.range a.toNat b.toNat)).c, .int .u64 (s.or (W4.range a.toNat b.toNat)).d] := hF 4 (by decide)
                  have HZ := Lib.hid ((Below.drew (Below.refl w5.heap.size w5)).trans hb)
                  obtain ⟨-, -, -, -, f0, f1, f2, f3⟩ := HK.out z HZ.out
                  obtain ⟨k0, k1, k2, k3, -⟩ := HK.out z HZ.out
                  clear hb hF
                  go_simp
                  refine HKK.out _ _ ?_
                  clear HKK h4 k0 k1 k2 k3 f0 f1 f2 f3
                  have HRz := Lib.hid (HR5.out.below HZ.out)
                  have HBz := Lib.hid (HB5.out.call HSW.out.1 HZ.out)
                  have HRBz := Lib.hid (blk_below HRB5.out HZ.out)
                  have HSBz := Lib.hid (blk_below HSB5.out HZ.out)
                  have HPUT := Lib.hid (cls_put HRz.out HBz.out HSW.out.1 HSW.out.2 HS.out.1 HRBz.out HSBz.out (s.or (W4.range a.toNat b.toNat)) _ rfl)
                  clear HR5 HB5 HRB5 HSB5 HZ HK
                  go_wp2_with fail
                  go_roundw
                  case rel => exact ⟨s.or (W4.range a.toNat b.toNat), l3, q3, f, W4.ok_or hs (W4.ok_range _ _), by have := HL.out; have := HL3.out; simp only [List.length_cons] at *; omega, Lib.hid ((Tr.cls_two H93.out HIT.out HIT3.out HBA.out).symm.trans HC.out), Lib.hid HPUT.out.1, Lib.hid HPUT.out.2.1, Lib.hid HPUT.out.2.2.1, Lib.hid HPUT.out.2.2.2⟩
                  case measure => rw [HPUT.out.1.pos, HM.out]; have := HL.out; have := HL3.out; have e1 : q3 + l3.length = l.length := HRz.out.pl; have := HZp.out; simp only [List.length_cons] at *; show l.length - q3 < l.length - p2; omega
      · obtain ⟨l1, rfl⟩ := Tr.nx_cons h93
        rw [h93] at HI93
        clear h93
        have hres : Hid (res = .ok s l1 (p2 + 1)) := Lib.hid (HC.out.symm.trans (Tr.cls_end f s l1 p2))
        go_wp2_with fail
        refine HI93.out.mono ?_
        rintro e w3 ⟨rfl, hR3, B3⟩
        have HR3 : Hid (RS w3 base g l l1 (p2 + 1) op ns ps vN vP) := Lib.hid hR3
        have HB3 := Lib.hid (HB.out.trans B3)
        have HRB3 := Lib.hid ((B3.blk (blk_lt HRB.out) (by have := HS.out; omega)).trans HRB.out)
        have HSB3 := Lib.hid ((B3.blk (blk_lt HSB.out) (by have := HS.out; omega)).trans HSB.out)
        clear hR3 B3 HR HB HRB HSB
        have k0 := blk_cell HSB3.out 0
        have k1 := blk_cell HSB3.out 1
        have k2 := blk_cell HSB3.out 2
        have k3 := blk_cell HSB3.out 3
        have c0 := blk_cell HRB3.out 0
        have c1 := blk_cell HRB3.out 1
        have c2 := blk_cell HRB3.out 2
        have c3 := blk_cell HRB3.out 3
        simp at k0 k1 k2 k3 c0 c1 c2 c3
        have f0 := blk_frozen HRB3.out 0
        have f1 := blk_frozen HRB3.out 1
        have f2 := blk_frozen HRB3.out 2
        have f3 := blk_frozen HRB3.out 3
        cases bn
        · go_wp2_with fail
          obtain ⟨hR, hB, hK⟩ := res_put HR3.out HB3.out HSW.out.1 HSW.out.2 HRB3.out rfl s _ rfl
          rw [show Tr.kl false res = .ok s l1 (p2 + 1) from hres.out]
          clear k0 k1 k2 k3 c0 c1 c2 c3 f0 f1 f2 f3
          generalize (((w3.setCell ⟨rb, 0, none⟩ (.int .u64 s.a)).setCell ⟨rb, 1, none⟩ (.int .u64 s.b)).setCell ⟨rb, 2, none⟩ (.int .u64 s.c)).setCell ⟨rb, 3, none⟩ (.int .u64 s.d) = Z at *
          have k0 := blk_cell hK 0
          have k1 := blk_cell hK 1
          have k2 := blk_cell hK 2
          have k3 := blk_cell hK 3
          simp at k0 k1 k2 k3
          exact bodyPost_ret (v := .agg #[.int .u64 s.a, .int .u64 s.b, .int .u64 s.c, .int .u64 s.d]) (by simp [results, Tryd.results82, go_sem, k0, k1, k2, k3]) rfl ⟨rfl, hR, hB⟩
        · go_wp2_with fail
          have HN := Lib.hid (not_any s hs w3)
          refine HN.out.mono ?_
          rintro e w4 ⟨rfl, B4⟩
          have HB4 := Lib.hid (HB3.out.call HSW.out.1 B4)
          have HR4 := Lib.hid (HR3.out.below B4)
          have HRB4 := Lib.hid (blk_below HRB3.out B4)
          have HSB4 := Lib.hid (blk_below HSB3.out B4)
          clear B4 k0 k1 k2 k3 c0 c1 c2 c3 f0 f1 f2 f3 HB3 HR3 HRB3 HSB3
          have k0 := blk_cell HSB4.out 0
          have k1 := blk_cell HSB4.out 1
          have k2 := blk_cell HSB4.out 2
          have k3 := blk_cell HSB4.out 3
          have c0 := blk_cell HRB4.out 0
          have c1 := blk_cell HRB4.out 1
          have c2 := blk_cell HRB4.out 2
          have c3 := blk_cell HRB4.out 3
          simp at k0 k1 k2 k3 c0 c1 c2 c3
          have f0 := blk_frozen HRB4.out 0
          have f1 := blk_frozen HRB4.out 1
          have f2 := blk_frozen HRB4.out 2
          have f3 := blk_frozen HRB4.out 3
          have g0 := blk_frozen HSB4.out 0
          have g1 := blk_frozen HSB4.out 1
          have g2 := blk_frozen HSB4.out 2
          have g3 := blk_frozen HSB4.out 3
          have ne : Hid (rb ≠ sb) := Lib.hid (by have := HS.out; omega)
          have ne1 : (rb == sb) = false := by have := ne.out; simpa using this
          have ne2 : (sb == rb) = false := by have := ne.out; simpa using this.symm
          have ne3 : ¬ rb = sb := ne.out
          have ne4 : ¬ sb = rb := Ne.symm ne.out
          go_wp2_with fail
          have HP := cls_put HR4.out HB4.out HSW.out.1 HSW.out.2 HS.out.1 HRB4.out HSB4.out s.not _ rfl
          clear k0 k1 k2 k3 c0 c1 c2 c3 f0 f1 f2 f3 g0 g1 g2 g3 ne1 ne2 ne3 ne4
          generalize (((w4.setCell ⟨sb, 0, none⟩ (.int .u64 s.not.a)).setCell ⟨sb, 1, none⟩ (.int .u64 s.not.b)).setCell ⟨sb, 2, none⟩ (.int .u64 s.not.c)).setCell ⟨sb, 3, none⟩ (.int .u64 s.not.d) = Y at *
          obtain ⟨hR, hB, hK⟩ := res_put HP.1 HP.2.1 HSW.out.1 HSW.out.2 HP.2.2.1 rfl s.not _ rfl
          rw [show Tr.kl true res = .ok s.not l1 (p2 + 1) by rw [hres.out]; rfl]
          clear HP
          generalize (((Y.setCell ⟨rb, 0, none⟩ (.int .u64 s.not.a)).setCell ⟨rb, 1, none⟩ (.int .u64 s.not.b)).setCell ⟨rb, 2, none⟩ (.int .u64 s.not.c)).setCell ⟨rb, 3, none⟩ (.int .u64 s.not.d) = Z at *
          have k0 := blk_cell hK 0
          have k1 := blk_cell hK 1
          have k2 := blk_cell hK 2
          have k3 := blk_cell hK 3
          simp at k0 k1 k2 k3
          exact bodyPost_ret (v := .agg #[.int .u64 s.not.a, .int .u64 s.not.b, .int .u64 s.not.c, .int .u64 s.not.d]) (by simp [results, Tryd.results82, go_sem, k0, k1, k2, k3]) rfl ⟨rfl, hR, hB⟩
end
end Go.Proofs.YtebkaajnnjfhjaaDoor
