/-
  The reader's atom: walked, given what a group comes to.
-/
import Derived.Test.YtebkaajnnjfhjaaRx7
namespace Go.Proofs.Ytebkaajnnjfhjaa
set_option linter.unusedVariables false
set_option linter.unusedSimpArgs false
open Go.RowKit Go.Proofs.YtebkaajnnjfhjaaW.PrintWords
open Tr (Nd Pt T R sz rootI post)

/-- What a call of the reader comes to that lays a tree's nodes. -/
def OutN (w : World) (base g : Nat) (l : List UInt8) (op : Nat) (ns : List Nd) (ps : List Pt) (vP : Value) (K : Nat) (res : R T) (e : Ending) (w' : World) : Prop :=
  match res with
  | .ok t r' p' => e = .returned (.int .i64 (rootI ns.length t)) ∧ (∃ vN', RS w' base g l r' p' op (ns ++ post ns.length t) ps vN' vP) ∧ Below base w w' ∧ sz t + 2 * r'.length ≤ K
  | .no q x => e = .panicked (flt q x) ∧ Below base w w'
section
variable {w0 w w1 : World} {base g : Nat} {l r : List UInt8} {p op : Nat} {ns : List Nd} {ps : List Pt} {vN vP : Value}
theorem RS.bs {w' : World} (h : RS w base g l r p op ns ps vN vP) (hb : Bg g w w') : Below base w w' := hb.1.mono h.bg
theorem OutN.fail {K : Nat} {q : Nat} {x : Int} {w' : World} (hb : Below base w w') : OutN w base g l op ns ps vP K (.no q x) (.panicked (flt q x)) w' := ⟨rfl, hb⟩
/-- What is claimed of a group under d more that may be opened. -/
def GroupSaid (f0 d : Nat) : Prop := ∀ (w : World) (base g : Nat) (l r : List UInt8) (p op : Nat) (ns : List Nd) (ps : List Pt) (vN vP : Value) (pl : Nat),
  op + d = 16 → l.length < f0 → ns.length + 2 * r.length ≤ 90000 → RS w base g l r p op ns ps vN vP →
  Calls Try.prog 34 #[.pointer (some ⟨g, 0, none⟩), .int .i64 pl] w (OutN w base g l op ns ps vP (2 * r.length + 1) (Tr.grp f0 d pl r p))
/-- A set's node. -/
theorem node_set (s : W4) (hn : ns.length ≤ 100000) (h : RS w base g l r p op ns ps vN vP) : Calls Try.prog 23 #[.pointer (some ⟨g, 0, none⟩), .agg #[.int .u8 2, .int .u64 s.a, .int .u64 s.b, .int .u64 s.c, .int .u64 s.d, .int .i64 0, .int .i64 0, .int .i64 0, .int .i64 0]] w fun e w' => e = .returned (.int .i64 ns.length) ∧ (∃ vN', RS w' base g l r p op (ns ++ post ns.length (.set s)) ps vN' vP) ∧ Below base w w' := rdnode_any ⟨2, s, 0, 0, 0, 0⟩ hn h
theorem root_set (n : Nat) (s : W4) : rootI n (.set s) = n := by unfold rootI sz; omega
theorem of_one (c : UInt8) (z : World) (gz : Nat) (hz : z.heap.size = gz) : Calls Try.prog 8 #[.slice (some ⟨gz, 0, none⟩) 1 1] (z.alloc (.cells #[.int .u8 c.toNat] 5)) fun e w' => e = .returned (.agg #[.int .u64 (W4.ofList [c]).a, .int .u64 (W4.ofList [c]).b, .int .u64 (W4.ofList [c]).c, .int .u64 (W4.ofList [c]).d]) ∧ Below z.heap.size z w' := by
  subst hz
  have hn := blk_new z (.cells #[.int .u8 c.toNat] 5)
  refine (of_any z.heap.size 1 [c] (by simp) _ (blk_lt hn) (fun j hj => by
    have h6 : j < 1 := hj
    obtain rfl : j = 0 := by omega
    exact (blk_cell hn 0).trans rfl)).mono ?_
  rintro e w' ⟨rfl, B⟩
  exact ⟨rfl, bthen (by (repeat (first | exact Below.refl _ _ | assumption | refine Below.drew ?_ | refine Below.alloc ?_ (by first | exact Nat.le_refl _ | (simp; done) | (simp; omega) | omega) _ | refine Below.setCell ?_ (by first | exact Nat.le_refl _ | (simp; done) | (simp; omega) | omega) _))) B⟩
set_option maxRecDepth 100000 in
set_option maxHeartbeats 3200000 in
theorem atom_any {f0 d : Nat} (HG : GroupSaid f0 d) (c : UInt8) (hop : op + d = 16) (hf : l.length < f0) (hK : ns.length + 2 * r.length ≤ 90000) (h : RS w base g l (c :: r) p op ns ps vN vP) :
    Calls Try.prog 29 #[.pointer (some ⟨g, 0, none⟩), .int .u8 c.toNat] w (OutN w base g l op ns ps vP (2 * r.length + 1) (Tr.atm f0 (Tr.grp f0 d) c r p)) := by
  have H := Lib.hid h
  have HGS := Lib.hid HG
  have HN := Lib.hid (And.intro hop (And.intro hf hK))
  have h1 : Hid (RS (w.setCell ⟨g, 1, none⟩ (.int .i64 ((p : Int) + 1))) base g l r (p + 1) op ns ps vN vP) := Lib.hid (by have := h.at_ 1 (by simp); simpa using this)
  have HB1 : Hid (Bg g w (w.setCell ⟨g, 1, none⟩ (.int .i64 ((p : Int) + 1)))) := Lib.hid ((Bg.refl g w).set 1 _)
  obtain ⟨c0, c1, c2, c3, c4⟩ := h.cells
  have f1 := h.ice 1
  have hll := h.ll
  have hpl := h.pl
  have hrl : Hid (r.length < f0) := Lib.hid (by simp only [List.length_cons] at hpl; omega)
  have W1 : IntKind.i64.wrap ((p : Int) + 1) = (p : Int) + 1 := IntWalk.i64_in _ (by simp only [List.length_cons] at hpl; omega)
  generalize ht : Tr.atm f0 (Tr.grp f0 d) c r p = res
  have HT := Lib.hid ht
  clear h ht hll hpl HG hop hf hK
  cases h40 : c == (40 : UInt8)
  · have t40 : ((c.toNat : Int) == 40) = false := by have := u8_beq c 40; rw [h40] at this; exact this
    have H40 : Hid (¬ c = 40) := Lib.hid (by simpa using h40)
    clear h40
    cases h46 : c == (46 : UInt8)
    · have t46 : ((c.toNat : Int) == 46) = false := by have := u8_beq c 46; rw [h46] at this; exact this
      have H46 : Hid (¬ c = 46) := Lib.hid (by simpa using h46)
      clear h46
      cases h91 : c == (91 : UInt8)
      · have t91 : ((c.toNat : Int) == 91) = false := by have := u8_beq c 91; rw [h91] at this; exact this
        have H91 : Hid (¬ c = 91) := Lib.hid (by simpa using h91)
        clear h91
        cases h92 : c == (92 : UInt8)
        · have t92 : ((c.toNat : Int) == 92) = false := by have := u8_beq c 92; rw [h92] at this; exact this
          have H92 : Hid (¬ c = 92) := Lib.hid (by simpa using h92)
          clear h92
          have HI := Lib.hid (fun (z : World) => rixb_any c [38, 33, 124, 42, 43, 63, 123, 125, 91, 93, 40, 41, 46, 92] z)
          cases hm : Tr.marks.contains c
          · replace HT : Hid (res = .ok (.set (W4.ofList [c])) r (p + 1)) := Lib.hid (by rw [← HT.out]; unfold Tr.atm; simp only [H40.out, H46.out, H91.out, H92.out, hm]; rfl)
            have HC : Hid (List.contains [38, 33, 124, 42, 43, 63, 123, 125, 91, 93, 40, 41, 46, 92] c = false) := Lib.hid hm
            clear hm
            go_enter Try.func29, Try.ntmps29
            go_wp2_with fail
            refine (HI.out _).mono ?_
            rintro e w2 ⟨i, rfl, hi, rfl⟩
            rw [HC.out] at hi
            go_wp2_with fail
            refine (of_one c _ _ (by simp)).mono ?_
            rintro e w3 ⟨rfl, B3⟩
            have HR3 := Lib.hid (h1.out.below B3)
            have HB3 := Lib.hid (HB1.out.trans (h1.out.fr B3))
            clear B3
            go_wp2_with fail
            refine (node_set (W4.ofList [c]) (by have := HN.out; omega) HR3.out).mono ?_
            rintro e w4 ⟨rfl, hR4, B4⟩
            have HZ := Lib.hid (And.intro hR4 ((H.out.bs HB3.out).trans B4))
            clear hR4 B4
            go_wp2_with fail
            rw [HT.out]
            go_ret
            exact ⟨by rw [root_set]; rfl, HZ.out.1, HZ.out.2, by unfold sz; omega⟩
          · replace HT : Hid (res = .no p 8) := Lib.hid (by rw [← HT.out]; unfold Tr.atm; simp only [H40.out, H46.out, H91.out, H92.out, hm]; rfl)
            have HC : Hid (List.contains [38, 33, 124, 42, 43, 63, 123, 125, 91, 93, 40, 41, 46, 92] c = true) := Lib.hid hm
            clear hm
            go_enter Try.func29, Try.ntmps29
            go_wp2_with fail
            refine (HI.out _).mono ?_
            rintro e w2 ⟨i, rfl, hi, rfl⟩
            rw [HC.out] at hi
            go_wp2_with fail
            refine (fails_any p 8).mono ?_
            rintro e w3 ⟨rfl, B3⟩
            refine ⟨rfl, ?_⟩
            rw [HT.out]
            exact OutN.fail (H.out.bs (HB1.out.trans (h1.out.fr B3)))
        · have t92 : ((c.toNat : Int) == 92) = true := by have := u8_beq c 92; rw [h92] at this; exact this
          have H92 : c = 92 := by simpa using h92
          replace HT : Hid (res = (Tr.esc p [38, 33, 124, 42, 43, 63, 123, 125, 91, 93, 40, 41, 46, 92] r (p + 1)).bnd fun x l1 p1 => .ok (.set (W4.ofList [x])) l1 p1) := Lib.hid (by rw [← HT.out]; unfold Tr.atm; simp only [H40.out, H46.out, H91.out, H92]; rfl)
          clear h92 H92
          go_enter Try.func29, Try.ntmps29
          go_wp2_with fail
          refine (escape_any p [38, 33, 124, 42, 43, 63, 123, 125, 91, 93, 40, 41, 46, 92] h1.out).mono ?_
          rintro e w2 hO
          cases he : Tr.esc p [38, 33, 124, 42, 43, 63, 123, 125, 91, 93, 40, 41, 46, 92] r (p + 1) with
          | no q x =>
            rw [he] at hO HT
            obtain ⟨rfl, B2⟩ := hO
            refine ⟨rfl, ?_⟩
            rw [HT.out]
            exact OutN.fail (H.out.bs (HB1.out.trans B2))
          | ok x l1 p1 =>
            rw [he] at hO HT
            obtain ⟨rfl, hR2, B2⟩ := hO
            have HR2 := Lib.hid hR2
            have HB2 := Lib.hid (HB1.out.trans B2)
            have HL := Lib.hid (Tr.esc_len he)
            clear hR2 B2 he
            go_wp2_with fail
            refine (of_one x _ _ (by simp)).mono ?_
            rintro e w3 ⟨rfl, B3⟩
            have HR3 := Lib.hid (HR2.out.below B3)
            have HB3 := Lib.hid (HB2.out.trans (HR2.out.fr B3))
            clear B3
            go_wp2_with fail
            refine (node_set (W4.ofList [x]) (by have := HN.out; omega) HR3.out).mono ?_
            rintro e w4 ⟨rfl, hR4, B4⟩
            have HZ := Lib.hid (And.intro hR4 ((H.out.bs HB3.out).trans B4))
            clear hR4 B4
            go_wp2_with fail
            rw [HT.out]
            go_ret
            exact ⟨by rw [root_set]; rfl, HZ.out.1, HZ.out.2, by have := HL.out; unfold sz; omega⟩
      · have t91 : ((c.toNat : Int) == 91) = true := by have := u8_beq c 91; rw [h91] at this; exact this
        have H91 : c = 91 := by simpa using h91
        replace HT : Hid (res = (Tr.klass f0 r (p + 1)).bnd fun s l1 p1 => .ok (.set s) l1 p1) := Lib.hid (by rw [← HT.out]; unfold Tr.atm; simp only [H40.out, H46.out, H91]; rfl)
        clear h91 H91
        go_enter Try.func29, Try.ntmps29
        go_wp2_with fail
        refine (class_any f0 hrl.out h1.out).mono ?_
        rintro e w2 hO
        cases he : Tr.klass f0 r (p + 1) with
        | no q x =>
          rw [he] at hO HT
          obtain ⟨rfl, B2⟩ := hO
          refine ⟨rfl, ?_⟩
          rw [HT.out]
          exact OutN.fail (H.out.bs (HB1.out.trans B2))
        | ok s l1 p1 =>
          rw [he] at hO HT
          obtain ⟨rfl, hR2, B2⟩ := hO
          have HR2 := Lib.hid hR2
          have HB2 := Lib.hid (HB1.out.trans B2)
          have HL := Lib.hid (Tr.klass_len he)
          clear hR2 B2 he
          go_wp2_with fail
          refine (node_set s (by have := HN.out; omega) HR2.out).mono ?_
          rintro e w4 ⟨rfl, hR4, B4⟩
          have HZ := Lib.hid (And.intro hR4 ((H.out.bs HB2.out).trans B4))
          clear hR4 B4
          go_wp2_with fail
          rw [HT.out]
          go_ret
          exact ⟨by rw [root_set]; rfl, HZ.out.1, HZ.out.2, by have := HL.out; unfold sz; omega⟩
    · have t46 : ((c.toNat : Int) == 46) = true := by have := u8_beq c 46; rw [h46] at this; exact this
      have H46 : c = 46 := by simpa using h46
      replace HT : Hid (res = .ok (.set allW) r (p + 1)) := Lib.hid (by rw [← HT.out]; unfold Tr.atm; simp only [H40.out, H46]; rfl)
      clear h46 H46
      go_enter Try.func29, Try.ntmps29
      go_wp2_with fail
      refine (all_any _).mono ?_
      rintro e w3 ⟨rfl, B3⟩
      have HR3 := Lib.hid (h1.out.below B3)
      have HB3 := Lib.hid (HB1.out.trans (h1.out.fr B3))
      clear B3
      go_wp2_with fail
      refine (node_set allW (by have := HN.out; omega) HR3.out).mono ?_
      rintro e w4 ⟨rfl, hR4, B4⟩
      have HZ := Lib.hid (And.intro hR4 ((H.out.bs HB3.out).trans B4))
      clear hR4 B4
      go_wp2_with fail
      rw [HT.out]
      go_ret
      exact ⟨by rw [root_set]; rfl, HZ.out.1, HZ.out.2, by unfold sz; omega⟩
  · have t40 : ((c.toNat : Int) == 40) = true := by have := u8_beq c 40; rw [h40] at this; exact this
    have H40 : c = 40 := by simpa using h40
    replace HT : Hid (res = Tr.grp f0 d p r (p + 1)) := Lib.hid (by rw [← HT.out]; unfold Tr.atm; simp only [H40]; rfl)
    clear h40 H40
    go_enter Try.func29, Try.ntmps29
    go_wp2_with fail
    refine (HGS.out _ base g l r (p + 1) op ns ps vN vP p HN.out.1 HN.out.2.1 HN.out.2.2 h1.out).mono ?_
    rintro e w2 hO
    rw [← HT.out] at hO
    clear HT
    cases res with
    | no q x =>
      obtain ⟨rfl, B2⟩ := hO
      refine ⟨rfl, ?_⟩
      exact OutN.fail ((H.out.bs HB1.out).trans B2)
    | ok t l1 p1 =>
      obtain ⟨rfl, hR2, B2, hs2⟩ := hO
      have HZ := Lib.hid (And.intro hR2 (And.intro ((H.out.bs HB1.out).trans B2) hs2))
      clear hR2 B2 hs2
      go_wp2_with fail
      go_ret
      exact ⟨rfl, HZ.out⟩
end
end Go.Proofs.Ytebkaajnnjfhjaa
