/-
  The reader's branch, pattern, group: walked.
-/
import Derived.Test.YtebkaajnnjfhjaaRx8
namespace Go.Proofs.Ytebkaajnnjfhjaa
set_option linter.unusedVariables false
set_option linter.unusedSimpArgs false
open Go.RowKit Go.Proofs.YtebkaajnnjfhjaaW.PrintWords
open Tr (Nd Pt T R sz rootI post)

namespace Tr
def accI (n : Nat) : Option T → Int
  | none => -1
  | some t => rootI n t
def accN (n : Nat) : Option T → List Nd
  | none => []
  | some t => post n t
def accS : Option T → Nat
  | none => 0
  | some t => sz t
theorem accN_len (n : Nat) (a : Option T) : (accN n a).length = accS a := by
  cases a
  · rfl
  · exact post_len _ _
theorem bra_stop' {f0 f : Nat} {g : Nat → B → Nat → R T} {acc : Option T} {l : B} {p : Nat} (h : stops l = true) : bra f0 g (f + 1) acc l p = .ok (acc.getD .emp) l p := by
  rcases l with _ | ⟨c, l⟩ <;> rw [bra, h] <;> rfl
theorem bra_go {f0 f : Nat} {g : Nat → B → Nat → R T} {acc : Option T} {c : UInt8} {t : B} {p : Nat} (h : stops (c :: t) = false) : bra f0 g (f + 1) acc (c :: t) p = (atm f0 g c t p).bnd fun x l1 p1 => (tim l1 p1).bnd fun m l2 p2 => bra f0 g f (some (sqd (tmd x m) acc)) l2 p2 := by
  rw [bra, h]; rfl
theorem digit_len {p p' : Nat} {l l' : B} {v : Int} (h : digit l p = .ok v l' p') : l'.length < l.length := by
  rcases l with _ | ⟨c, t⟩
  · cases h
  · by_cases hc : 48 ≤ c.toNat ∧ c.toNat ≤ 57
    · rw [show digit (c :: t) p = .ok (c.toNat - 48 : Int) t (p + 1) from if_pos hc] at h
      injection h with _ h _; rw [← h]; simp
    · rw [show digit (c :: t) p = .no p 8 from if_neg hc] at h
      cases h
theorem nx_drop {x : UInt8} {l : B} (h : nx x l = true) : (l.drop 1).length < l.length := by
  obtain ⟨t, rfl⟩ := nx_cons h
  simp
theorem brace_len {mn mx : Int} {l l' : B} {p p' : Nat} {m : Option (Int × Int)} (h : brace mn mx l p = .ok m l' p') : l'.length < l.length ∧ m.isSome = true := by
  unfold brace at h
  split at h
  · rename_i h1
    injection h with hm h _
    rw [← h, ← hm]; exact ⟨nx_drop h1, rfl⟩
  · cases h
theorem tim_len {p p' : Nat} {l l' : B} {m : Option (Int × Int)} (h : tim l p = .ok m l' p') : l'.length + (if m.isSome then 1 else 0) ≤ l.length := by
  unfold tim at h
  split at h
  · rename_i h1; injection h with hm h _; rw [← h, ← hm]; exact nx_drop h1
  · split at h
    · rename_i h1; injection h with hm h _; rw [← h, ← hm]; exact nx_drop h1
    · split at h
      · rename_i h1; injection h with hm h _; rw [← h, ← hm]; exact nx_drop h1
      · split at h
        · rename_i h1
          have hd1 := nx_drop h1
          cases hd : digit (l.drop 1) (p + 1) with
          | no q x => rw [hd] at h; cases h
          | ok mn l1 p1 =>
            rw [hd] at h
            have h2 := digit_len hd
            simp only [R.bnd] at h
            split at h
            · rename_i h3
              have hd3 := nx_drop h3
              cases hd' : digit (l1.drop 1) (p1 + 1) with
              | no q x => rw [hd'] at h; cases h
              | ok mx l2 p2 =>
                rw [hd'] at h
                have h4 := digit_len hd'
                simp only at h
                split at h
                · cases h
                · obtain ⟨h5, h6⟩ := brace_len h
                  rw [h6]; simp only [if_true]; omega
            · obtain ⟨h5, h6⟩ := brace_len h
              rw [h6]; simp only [if_true]; omega
        · injection h with hm h _; rw [← h, ← hm]; simp
end Tr
open Tr (accI accN accS)
section
variable {w0 w w1 : World} {base g : Nat} {l r : List UInt8} {p op : Nat} {ns : List Nd} {ps : List Pt} {vN vP : Value}
theorem post_tms (n : Nat) (x : T) (a b : Int) : post n (.tms x a b) = post n x ++ [⟨5, W4.zero, rootI n x, 0, a, b⟩] := rfl
theorem node_tms {N : List Nd} (x : T) (a b : Int) (hn : N.length + sz x ≤ 100000) (h : RS w base g l r p op (N ++ post N.length x) ps vN vP) : Calls Try.prog 23 #[.pointer (some ⟨g, 0, none⟩), .agg #[.int .u8 5, .int .u64 0, .int .u64 0, .int .u64 0, .int .u64 0, .int .i64 (rootI N.length x), .int .i64 0, .int .i64 a, .int .i64 b]] w fun e w' => e = .returned (.int .i64 (rootI N.length (.tms x a b))) ∧ (∃ vN', RS w' base g l r p op (N ++ post N.length (.tms x a b)) ps vN' vP) ∧ Below base w w' := by
  have hl : (N ++ post N.length x).length = N.length + sz x := by rw [List.length_append, Tr.post_len]
  refine (rdnode_any ⟨5, W4.zero, rootI N.length x, 0, a, b⟩ (by rw [hl]; exact hn) h).mono ?_
  rintro e w' ⟨rfl, hR, hB⟩
  refine ⟨?_, ?_, hB⟩
  · rw [hl]; congr 2; unfold rootI; simp only [sz]; omega
  · rw [post_tms, ← List.append_assoc]; exact hR
theorem node_seq {N M : List Nd} (a b : T) (hM : M = N ++ post N.length a) (hn : M.length + sz b ≤ 100000) (h : RS w base g l r p op (M ++ post M.length b) ps vN vP) : Calls Try.prog 23 #[.pointer (some ⟨g, 0, none⟩), .agg #[.int .u8 3, .int .u64 0, .int .u64 0, .int .u64 0, .int .u64 0, .int .i64 (rootI N.length a), .int .i64 (rootI M.length b), .int .i64 0, .int .i64 0]] w fun e w' => e = .returned (.int .i64 (rootI N.length (.seq a b))) ∧ (∃ vN', RS w' base g l r p op (N ++ post N.length (.seq a b)) ps vN' vP) ∧ Below base w w' := by
  have hm : M.length = N.length + sz a := by rw [hM, List.length_append, Tr.post_len]
  have hl : (M ++ post M.length b).length = N.length + sz a + sz b := by rw [List.length_append, Tr.post_len, hm]
  refine (rdnode_any ⟨3, W4.zero, rootI N.length a, rootI M.length b, 0, 0⟩ (by rw [hl, ← hm]; exact hn) h).mono ?_
  rintro e w' ⟨rfl, hR, hB⟩
  refine ⟨?_, ?_, hB⟩
  · rw [hl]; congr 2; unfold rootI; simp only [sz]; omega
  · have e1 : N ++ post N.length (.seq a b) = M ++ post M.length b ++ [⟨3, W4.zero, rootI N.length a, rootI M.length b, 0, 0⟩] := by
      rw [hm, hM]; simp only [post, List.append_assoc]
    rw [e1]; exact hR
theorem node_alt {N M : List Nd} (a b : T) (hM : M = N ++ post N.length a) (hn : M.length + sz b ≤ 100000) (h : RS w base g l r p op (M ++ post M.length b) ps vN vP) : Calls Try.prog 23 #[.pointer (some ⟨g, 0, none⟩), .agg #[.int .u8 4, .int .u64 0, .int .u64 0, .int .u64 0, .int .u64 0, .int .i64 (rootI N.length a), .int .i64 (rootI M.length b), .int .i64 0, .int .i64 0]] w fun e w' => e = .returned (.int .i64 (rootI N.length (.alt a b))) ∧ (∃ vN', RS w' base g l r p op (N ++ post N.length (.alt a b)) ps vN' vP) ∧ Below base w w' := by
  have hm : M.length = N.length + sz a := by rw [hM, List.length_append, Tr.post_len]
  have hl : (M ++ post M.length b).length = N.length + sz a + sz b := by rw [List.length_append, Tr.post_len, hm]
  refine (rdnode_any ⟨4, W4.zero, rootI N.length a, rootI M.length b, 0, 0⟩ (by rw [hl, ← hm]; exact hn) h).mono ?_
  rintro e w' ⟨rfl, hR, hB⟩
  refine ⟨?_, ?_, hB⟩
  · rw [hl]; congr 2; unfold rootI; simp only [sz]; omega
  · have e1 : N ++ post N.length (.alt a b) = M ++ post M.length b ++ [⟨4, W4.zero, rootI N.length a, rootI M.length b, 0, 0⟩] := by
      rw [hm, hM]; simp only [post, List.append_assoc]
    rw [e1]; exact hR
theorem node_emp {N : List Nd} (hn : N.length ≤ 100000) (h : RS w base g l r p op N ps vN vP) : Calls Try.prog 23 #[.pointer (some ⟨g, 0, none⟩), .agg #[.int .u8 1, .int .u64 0, .int .u64 0, .int .u64 0, .int .u64 0, .int .i64 0, .int .i64 0, .int .i64 0, .int .i64 0]] w fun e w' => e = .returned (.int .i64 (rootI N.length .emp)) ∧ (∃ vN', RS w' base g l r p op (N ++ post N.length .emp) ps vN' vP) ∧ Below base w w' := by
  refine (rdnode_any ⟨1, W4.zero, 0, 0, 0, 0⟩ hn h).mono ?_
  rintro e w' ⟨rfl, hR, hB⟩
  refine ⟨?_, hR, hB⟩
  congr 2; unfold rootI; simp only [sz]; omega
theorem root_ge (n : Nat) (t : T) : 0 ≤ rootI n t := by have := Tr.sz_pos t; unfold rootI; omega
set_option maxRecDepth 100000 in
set_option maxHeartbeats 6400000 in
theorem branch_any {f0 d : Nat} (HG : GroupSaid f0 d) (hop : op + d = 16) (hf : l.length < f0) (hK : ns.length + 2 * r.length ≤ 90000) (h : RS w base g l r p op ns ps vN vP) :
    Calls Try.prog 22 #[.pointer (some ⟨g, 0, none⟩)] w (OutN w base g l op ns ps vP (2 * r.length + 1) (Tr.bra f0 (Tr.grp f0 d) f0 none r p)) := by
  have H := Lib.hid h
  have HGS := Lib.hid HG
  have HN := Lib.hid (And.intro hop (And.intro hf hK))
  generalize ht : Tr.bra f0 (Tr.grp f0 d) f0 none r p = res
  have HT := Lib.hid ht
  have hrf : Hid (r.length < f0) := Lib.hid (by have := h.pl; omega)
  clear h ht HG hop hf hK
  go_enter Try.func22, Try.ntmps22
  go_wp2_with fail
  go_loopw [3] (fun v3 wr => ∃ (acc : Option T) (r2 : List UInt8) (p2 f : Nat) (vN' : Value), v3 = .int .i64 (accI ns.length acc) ∧ r2.length < f ∧ accS acc + 2 * r2.length ≤ 2 * r.length ∧ Hid (Tr.bra f0 (Tr.grp f0 d) f acc r2 p2 = res) ∧ Hid (RS wr base g l r2 p2 op (ns ++ accN ns.length acc) ps vN' vP) ∧ Hid (Below base w wr)) (fun _ wr => l.length - posOf wr g)
  case atStart => exact ⟨none, r, p, f0, vN, rfl, hrf.out, by simp [accS], HT, Lib.hid (by rw [show ns ++ accN ns.length none = ns from List.append_nil _]; exact H.out), Lib.hid (Below.refl _ _)⟩
  case round =>
    clear HT
    obtain ⟨acc, r2, p2, f, vN', rfl, hf, hs, HC, HR, HB⟩ := hrel
    rcases f with _ | f
    · omega
    have HM := Lib.hid HR.out.pos
    have HZp := Lib.hid HR.out.pl
    obtain ⟨N, hN⟩ : ∃ N, N = ns ++ accN ns.length acc := ⟨_, rfl⟩
    have HNN := Lib.hid hN
    have HNS := Lib.hid (show N.length = ns.length + accS acc by rw [hN, List.length_append, Tr.accN_len])
    rw [← hN] at HR
    clear hN
    cases hst : Tr.stops r2
    · rcases r2 with _ | ⟨c, t⟩
      · cases hst
      · have HST := Lib.hid hst
        have e1 : (c == 124) = false ∧ (c == 41) = false ∧ (c == 38) = false := by
          have : ((c == 124 || c == 41) || c == 38) = false := hst
          simp only [Bool.or_eq_false_iff] at this
          exact ⟨this.1.1, this.1.2, this.2⟩
        obtain ⟨e1, e2, e3⟩ := e1
        have t1 : ((c.toNat : Int) == 124) = false := by have := u8_beq c 124; rw [e1] at this; exact this
        have t2 : ((c.toNat : Int) == 41) = false := by have := u8_beq c 41; rw [e2] at this; exact this
        have t3 : ((c.toNat : Int) == 38) = false := by have := u8_beq c 38; rw [e3] at this; exact this
        clear hst e1 e2 e3
        replace HC := Lib.hid ((Tr.bra_go HST.out).symm.trans HC.out)
        go_wp2_with fail
        refine (next_some HR.out).mono ?_
        rintro e w1 ⟨rfl, B1⟩
        have HR1 := Lib.hid (HR.out.below B1)
        have HB1 := Lib.hid (HB.out.trans (B1.mono HR.out.lt))
        clear B1
        go_wp2_with fail
        refine (atom_any HGS.out c HN.out.1 HN.out.2.1 (by have := HN.out; rw [HNS.out]; simp only [List.length_cons] at *; omega) HR1.out).mono ?_
        rintro e w2 hO
        cases ha : Tr.atm f0 (Tr.grp f0 d) c t p2 with
        | no q x =>
          rw [ha] at hO HC
          obtain ⟨rfl, B2⟩ := hO
          refine ⟨rfl, ?_⟩
          rw [← HC.out]
          exact OutN.fail (HB1.out.trans B2)
        | ok x l1 p1 =>
          rw [ha] at hO HC
          obtain ⟨rfl, ⟨vN2, hR2⟩, B2, hs2⟩ := hO
          have HR2 := Lib.hid hR2
          have HB2 := Lib.hid (HB1.out.trans B2)
          clear hR2 B2 HR1 HB1 HR HB ha
          replace HC : Hid (((Tr.tim l1 p1).bnd fun m l2 p2 => Tr.bra f0 (Tr.grp f0 d) f (some (Tr.sqd (Tr.tmd x m) acc)) l2 p2) = res) := HC
          go_wp2_with fail
          refine (rdtimes_any HR2.out).mono ?_
          rintro e w3 hO
          cases ha : Tr.tim l1 p1 with
          | no q x =>
            rw [ha] at hO HC
            obtain ⟨rfl, B3⟩ := hO
            refine ⟨rfl, ?_⟩
            rw [← HC.out]
            exact OutN.fail (HB2.out.trans (HR2.out.bs B3))
          | ok m l2 p3 =>
            rw [ha] at hO HC
            have HTL := Lib.hid (Tr.tim_len ha)
            obtain ⟨rfl, hR3, B3⟩ := hO
            have HR3 := Lib.hid hR3
            have HB3 := Lib.hid (HB2.out.trans (HR2.out.bs B3))
            clear hR3 B3 HR2 HB2 ha
            replace HC : Hid (Tr.bra f0 (Tr.grp f0 d) f (some (Tr.sqd (Tr.tmd x m) acc)) l2 p3 = res) := HC
            cases m with
            | none =>
              unfold encT
              have HS := Lib.hid (show sz x + 2 * l2.length ≤ 2 * t.length + 1 by have := HTL.out; simp at this; omega)
              replace HC : Hid (Tr.bra f0 (Tr.grp f0 d) f (some (Tr.sqd x acc)) l2 p3 = res) := HC
              have HR4 := HR3
              have HB4 := HB3
              clear HR3 HB3 HTL
              cases acc with
              | none =>
                have ea : accI ns.length none = -1 := rfl
                have en : Hid (N = ns) := Lib.hid (HNN.out.trans (List.append_nil _))
                go_wp2_with fail
                go_roundw
                case rel => exact ⟨some x, l2, p3, f, _, by rw [en.out]; rfl, by simp only [List.length_cons] at *; have := HS.out; have := Tr.sz_pos x; omega, by simp only [List.length_cons, accS] at *; have := HS.out; omega, HC, Lib.hid (by have := HR4.out; rw [en.out] at this; exact this), HB4⟩
                case measure => rw [HR4.out.pos, HM.out]; have e1 := HR4.out.pl; have := HZp.out; have := HS.out; have := Tr.sz_pos x; simp only [List.length_cons] at *; omega
              | some t0 =>
                have ea : accI ns.length (some t0) = rootI ns.length t0 := rfl
                have eb : decide (0 ≤ rootI ns.length t0) = true := decide_eq_true (root_ge _ _)
                go_wp2_with fail
                refine (node_seq t0 x HNN.out (by have := HN.out; have := HNS.out; have := HS.out; simp only [List.length_cons, accS] at *; omega) HR4.out).mono ?_
                rintro e w5 ⟨rfl, ⟨vN5, hR5⟩, B5⟩
                have HR5 := Lib.hid hR5
                have HB5 := Lib.hid (HB4.out.trans B5)
                clear hR5 B5 HR4 HB4
                go_wp2_with fail
                go_roundw
                case rel => exact ⟨some (.seq t0 x), l2, p3, f, _, rfl, by simp only [List.length_cons] at *; have := HS.out; have := Tr.sz_pos x; omega, by simp only [List.length_cons, accS, sz] at *; have := HS.out; omega, HC, HR5, HB5⟩
                case measure => rw [HR5.out.pos, HM.out]; have e1 := HR5.out.pl; have := HZp.out; have := HS.out; have := Tr.sz_pos x; simp only [List.length_cons] at *; omega
            | some m =>
              obtain ⟨a, b⟩ := m
              unfold encT
              have HS := Lib.hid (show sz (.tms x a b) + 2 * l2.length ≤ 2 * t.length + 1 by have := HTL.out; simp at this; simp only [sz]; omega)
              replace HC : Hid (Tr.bra f0 (Tr.grp f0 d) f (some (Tr.sqd (.tms x a b) acc)) l2 p3 = res) := HC
              go_wp2_with fail
              refine (node_tms x a b (by have := HN.out; have := HNS.out; simp only [List.length_cons] at *; omega) HR3.out).mono ?_
              rintro e w4 ⟨rfl, ⟨vN4, hR4⟩, B4⟩
              have HR4 := Lib.hid hR4
              have HB4 := Lib.hid (HB3.out.trans B4)
              clear hR4 B4 HR3 HB3 HTL
              cases acc with
              | none =>
                have ea : accI ns.length none = -1 := rfl
                have en : Hid (N = ns) := Lib.hid (HNN.out.trans (List.append_nil _))
                go_wp2_with fail
                go_roundw
                case rel => exact ⟨some (.tms x a b), l2, p3, f, _, by rw [en.out]; rfl, by simp only [List.length_cons] at *; have := HS.out; have := Tr.sz_pos (.tms x a b); omega, by simp only [List.length_cons, accS] at *; have := HS.out; omega, HC, Lib.hid (by have := HR4.out; rw [en.out] at this; exact this), HB4⟩
                case measure => rw [HR4.out.pos, HM.out]; have e1 := HR4.out.pl; have := HZp.out; have := HS.out; have := Tr.sz_pos (.tms x a b); simp only [List.length_cons] at *; omega
              | some t0 =>
                have ea : accI ns.length (some t0) = rootI ns.length t0 := rfl
                have eb : decide (0 ≤ rootI ns.length t0) = true := decide_eq_true (root_ge _ _)
                go_wp2_with fail
                refine (node_seq t0 (.tms x a b) HNN.out (by have := HN.out; have := HNS.out; have := HS.out; simp only [List.length_cons, accS] at *; omega) HR4.out).mono ?_
                rintro e w5 ⟨rfl, ⟨vN5, hR5⟩, B5⟩
                have HR5 := Lib.hid hR5
                have HB5 := Lib.hid (HB4.out.trans B5)
                clear hR5 B5 HR4 HB4
                go_wp2_with fail
                go_roundw
                case rel => exact ⟨some (.seq t0 (.tms x a b)), l2, p3, f, _, rfl, by simp only [List.length_cons] at *; have := HS.out; have := Tr.sz_pos (.tms x a b); omega, by simp only [List.length_cons, accS, sz] at *; have := HS.out; omega, HC, HR5, HB5⟩
                case measure => rw [HR5.out.pos, HM.out]; have e1 := HR5.out.pl; have := HZp.out; have := HS.out; have := Tr.sz_pos (.tms x a b); simp only [List.length_cons] at *; omega
    · have hres : Hid (res = .ok (acc.getD .emp) r2 p2) := Lib.hid (HC.out.symm.trans (Tr.bra_stop' hst))
      rcases r2 with _ | ⟨c, t⟩
      ·
        go_wp2_with fail
        refine (next_none HR.out).mono ?_
        rintro e w1 ⟨rfl, B1⟩
        have HR1 := Lib.hid (HR.out.below B1)
        have HB1 := Lib.hid (HB.out.trans (B1.mono HR.out.lt))
        clear B1 HR HB
        cases acc with
        | none =>
          have ea : accI ns.length none = -1 := rfl
          have en : Hid (N = ns) := Lib.hid (HNN.out.trans (List.append_nil _))
          go_wp2_with fail
          refine (node_emp (by have := HN.out; have := HNS.out; simp only [accS] at *; omega) HR1.out).mono ?_
          rintro e w2 ⟨rfl, ⟨vN2, hR2⟩, B2⟩
          have HZ : Hid ((∃ vN', RS w2 base g l _ p2 op (ns ++ post ns.length .emp) ps vN' vP) ∧ Below base w w2) := Lib.hid ⟨⟨vN2, by rw [en.out] at hR2; exact hR2⟩, HB1.out.trans B2⟩
          clear hR2 B2
          go_wp2_with fail
          rw [show res = .ok .emp _ p2 from hres.out]
          go_ret
          exact ⟨by rw [en.out]; rfl, HZ.out.1, HZ.out.2, by simp only [accS, sz] at *; omega⟩
        | some t0 =>
          have ea : accI ns.length (some t0) = rootI ns.length t0 := rfl
          have eb : decide (rootI ns.length t0 < 0) = false := decide_eq_false (by have := root_ge ns.length t0; omega)
          have HZ : Hid ((∃ vN', RS w1 base g l _ p2 op (ns ++ post ns.length t0) ps vN' vP) ∧ Below base w w1) := Lib.hid ⟨⟨vN', by have := HR1.out; rw [HNN.out] at this; exact this⟩, HB1.out⟩
          go_wp2_with fail
          rw [show res = .ok t0 _ p2 from hres.out]
          go_ret
          exact ⟨rfl, HZ.out.1, HZ.out.2, by simp only [accS] at *; omega⟩
      · have e1 : (c == 124 || c == 41 || c == 38) = true := hst
        have e2 : (c == 124) = true ∨ ((c == 124) = false ∧ (c == 41) = true) ∨ ((c == 124) = false ∧ (c == 41) = false ∧ (c == 38) = true) := by
          cases h1 : (c == 124)
          · cases h2 : (c == 41)
            · rw [h1, h2] at e1; exact .inr (.inr ⟨rfl, rfl, e1⟩)
            · exact .inr (.inl ⟨rfl, rfl⟩)
          · exact .inl rfl
        clear e1 hst
        rcases e2 with e1 | ⟨e1, e2⟩ | ⟨e1, e2, e3⟩
        · have t1 : ((c.toNat : Int) == 124) = true := by have := u8_beq c 124; rw [e1] at this; exact this
          clear e1
          go_wp2_with fail
          refine (next_some HR.out).mono ?_
          rintro e w1 ⟨rfl, B1⟩
          have HR1 := Lib.hid (HR.out.below B1)
          have HB1 := Lib.hid (HB.out.trans (B1.mono HR.out.lt))
          clear B1 HR HB
          cases acc with
          | none =>
            have ea : accI ns.length none = -1 := rfl
            have en : Hid (N = ns) := Lib.hid (HNN.out.trans (List.append_nil _))
            go_wp2_with fail
            refine (node_emp (by have := HN.out; have := HNS.out; simp only [accS] at *; omega) HR1.out).mono ?_
            rintro e w2 ⟨rfl, ⟨vN2, hR2⟩, B2⟩
            have HZ : Hid ((∃ vN', RS w2 base g l _ p2 op (ns ++ post ns.length .emp) ps vN' vP) ∧ Below base w w2) := Lib.hid ⟨⟨vN2, by rw [en.out] at hR2; exact hR2⟩, HB1.out.trans B2⟩
            clear hR2 B2
            go_wp2_with fail
            rw [show res = .ok .emp _ p2 from hres.out]
            go_ret
            exact ⟨by rw [en.out]; rfl, HZ.out.1, HZ.out.2, by simp only [accS, sz] at *; omega⟩
          | some t0 =>
            have ea : accI ns.length (some t0) = rootI ns.length t0 := rfl
            have eb : decide (rootI ns.length t0 < 0) = false := decide_eq_false (by have := root_ge ns.length t0; omega)
            have HZ : Hid ((∃ vN', RS w1 base g l _ p2 op (ns ++ post ns.length t0) ps vN' vP) ∧ Below base w w1) := Lib.hid ⟨⟨vN', by have := HR1.out; rw [HNN.out] at this; exact this⟩, HB1.out⟩
            go_wp2_with fail
            rw [show res = .ok t0 _ p2 from hres.out]
            go_ret
            exact ⟨rfl, HZ.out.1, HZ.out.2, by simp only [accS] at *; omega⟩
        · have t1 : ((c.toNat : Int) == 124) = false := by have := u8_beq c 124; rw [e1] at this; exact this
          have t2 : ((c.toNat : Int) == 41) = true := by have := u8_beq c 41; rw [e2] at this; exact this
          clear e1 e2
          go_wp2_with fail
          refine (next_some HR.out).mono ?_
          rintro e w1 ⟨rfl, B1⟩
          have HR1 := Lib.hid (HR.out.below B1)
          have HB1 := Lib.hid (HB.out.trans (B1.mono HR.out.lt))
          clear B1 HR HB
          cases acc with
          | none =>
            have ea : accI ns.length none = -1 := rfl
            have en : Hid (N = ns) := Lib.hid (HNN.out.trans (List.append_nil _))
            go_wp2_with fail
            refine (node_emp (by have := HN.out; have := HNS.out; simp only [accS] at *; omega) HR1.out).mono ?_
            rintro e w2 ⟨rfl, ⟨vN2, hR2⟩, B2⟩
            have HZ : Hid ((∃ vN', RS w2 base g l _ p2 op (ns ++ post ns.length .emp) ps vN' vP) ∧ Below base w w2) := Lib.hid ⟨⟨vN2, by rw [en.out] at hR2; exact hR2⟩, HB1.out.trans B2⟩
            clear hR2 B2
            go_wp2_with fail
            rw [show res = .ok .emp _ p2 from hres.out]
            go_ret
            exact ⟨by rw [en.out]; rfl, HZ.out.1, HZ.out.2, by simp only [accS, sz] at *; omega⟩
          | some t0 =>
            have ea : accI ns.length (some t0) = rootI ns.length t0 := rfl
            have eb : decide (rootI ns.length t0 < 0) = false := decide_eq_false (by have := root_ge ns.length t0; omega)
            have HZ : Hid ((∃ vN', RS w1 base g l _ p2 op (ns ++ post ns.length t0) ps vN' vP) ∧ Below base w w1) := Lib.hid ⟨⟨vN', by have := HR1.out; rw [HNN.out] at this; exact this⟩, HB1.out⟩
            go_wp2_with fail
            rw [show res = .ok t0 _ p2 from hres.out]
            go_ret
            exact ⟨rfl, HZ.out.1, HZ.out.2, by simp only [accS] at *; omega⟩
        · have t1 : ((c.toNat : Int) == 124) = false := by have := u8_beq c 124; rw [e1] at this; exact this
          have t2 : ((c.toNat : Int) == 41) = false := by have := u8_beq c 41; rw [e2] at this; exact this
          have t3 : ((c.toNat : Int) == 38) = true := by have := u8_beq c 38; rw [e3] at this; exact this
          clear e1 e2 e3
          go_wp2_with fail
          refine (next_some HR.out).mono ?_
          rintro e w1 ⟨rfl, B1⟩
          have HR1 := Lib.hid (HR.out.below B1)
          have HB1 := Lib.hid (HB.out.trans (B1.mono HR.out.lt))
          clear B1 HR HB
          cases acc with
          | none =>
            have ea : accI ns.length none = -1 := rfl
            have en : Hid (N = ns) := Lib.hid (HNN.out.trans (List.append_nil _))
            go_wp2_with fail
            refine (node_emp (by have := HN.out; have := HNS.out; simp only [accS] at *; omega) HR1.out).mono ?_
            rintro e w2 ⟨rfl, ⟨vN2, hR2⟩, B2⟩
            have HZ : Hid ((∃ vN', RS w2 base g l _ p2 op (ns ++ post ns.length .emp) ps vN' vP) ∧ Below base w w2) := Lib.hid ⟨⟨vN2, by rw [en.out] at hR2; exact hR2⟩, HB1.out.trans B2⟩
            clear hR2 B2
            go_wp2_with fail
            rw [show res = .ok .emp _ p2 from hres.out]
            go_ret
            exact ⟨by rw [en.out]; rfl, HZ.out.1, HZ.out.2, by simp only [accS, sz] at *; omega⟩
          | some t0 =>
            have ea : accI ns.length (some t0) = rootI ns.length t0 := rfl
            have eb : decide (rootI ns.length t0 < 0) = false := decide_eq_false (by have := root_ge ns.length t0; omega)
            have HZ : Hid ((∃ vN', RS w1 base g l _ p2 op (ns ++ post ns.length t0) ps vN' vP) ∧ Below base w w1) := Lib.hid ⟨⟨vN', by have := HR1.out; rw [HNN.out] at this; exact this⟩, HB1.out⟩
            go_wp2_with fail
            rw [show res = .ok t0 _ p2 from hres.out]
            go_ret
            exact ⟨rfl, HZ.out.1, HZ.out.2, by simp only [accS] at *; omega⟩
end
end Go.Proofs.Ytebkaajnnjfhjaa
