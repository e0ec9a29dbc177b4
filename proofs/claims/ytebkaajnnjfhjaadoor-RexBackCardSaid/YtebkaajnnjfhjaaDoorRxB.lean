/-
  The reader's branch, pattern, group: walked.
-/
import Derived.Test.YtebkaajnnjfhjaaDoorRx8
namespace Go.Proofs.YtebkaajnnjfhjaaDoor
set_option linter.unusedVariables false
set_option linter.unusedSimpArgs false
open Go.RowKit Go.Proofs.YtebkaajnnjfhjaaDoorW.PrintWords
open Tr (Nd Pt T R sz rootI post)

namespace Tr
def accI (n : Nat) : Option T → Int
  | none => -1
  | some t => rootI n t
def accN (n : Nat) : Option T → List Nd
  | none => []
  | some t => post n t
def accS : Option T → Nat
  | none => 0
  | some t => sz t
theorem accN_len (n : Nat) (a : Option T) : (accN n a).length = accS a := by
  cases a
  · rfl
  · exact post_len _ _
theorem bra_stop' {f0 f : Nat} {g : Nat → B → Nat → R T} {acc : Option T} {l : B} {p : Nat} (h : stops l = true) : bra f0 g (f + 1) acc l p = .ok (acc.getD .emp) l p := by
  rcases l with _ | ⟨c, l⟩ <;> rw [bra, h] <;> rfl
theorem bra_go {f0 f : Nat} {g : Nat → B → Nat → R T} {acc : Option T} {c : UInt8} {t : B} {p : Nat} (h : stops (c :: t) = false) : bra f0 g (f + 1) acc (c :: t) p = (atm f0 g c t p).bnd fun x l1 p1 => (tim l1 p1).bnd fun m l2 p2 => bra f0 g f (some (sqd (tmd x m) acc)) l2 p2 := by
  rw [bra, h]; rfl
theorem digit_len {p p' : Nat} {l l' : B} {v : Int} (h : digit l p = .ok v l' p') : l'.length < l.length := by
  rcases l with _ | ⟨c, t⟩
  · cases h
  · by_cases hc : 48 ≤ c.toNat ∧ c.toNat ≤ 57
    · rw [show digit (c :: t) p = .ok (c.toNat - 48 : Int) t (p + 1) from if_pos hc] at h
      injection h with _ h _; rw [← h]; simp
    · rw [show digit (c :: t) p = .no p 8 from if_neg hc] at h
      cases h
theorem nx_drop {x : UInt8} {l : B} (h : nx x l = true) : (l.drop 1).length < l.length := by
  obtain ⟨t, rfl⟩ := nx_cons h
  simp
theorem brace_len {mn mx : Int} {l l' : B} {p p' : Nat} {m : Option (Int × Int)} (h : brace mn mx l p = .ok m l' p') : l'.length < l.length ∧ m.isSome = true := by
  unfold brace at h
  split at h
  · rename_i h1
    injection h with hm h _
    rw [← h, ← hm]; exact ⟨nx_drop h1, rfl⟩
  · cases h
theorem tim_len {p p' : Nat} {l l' : B} {m : Option (Int × Int)} (h : tim l p = .ok m l' p') : l'.length + (if m.isSome then 1 else 0) ≤ l.length := by
  unfold tim at h
  split at h
  · rename_i h1; injection h with hm h _; rw [← h, ← hm]; exact nx_drop h1
  · split at h
    · rename_i h1; injection h with hm h _; rw [← h, ← hm]; exact nx_drop h1
    · split at h
      · rename_i h1; injection h with hm h _; rw [← h, ← hm]; exact nx_drop h1
      · split at h
        · rename_i h1
          have hd1 := nx_drop h1
          cases hd : digit (l.drop 1) (p + 1) with
          | no q x => rw [hd] at h; cases h
          | ok mn l1 p1 =>
            rw [hd] at h
            have h2 := digit_len hd
            simp only [R.bnd] at h
            split at h
            · rename_i h3
              have hd3 := nx_drop h3
              cases hd' : digit (l1.drop 1) (p1 + 1) with
              | no q x => rw [hd'] at h; cases h
              | ok mx l2 p2 =>
                rw [hd'] at h
                have h4 := digit_len hd'
                simp only at h
                split at h
                · cases h
                · obtain ⟨h5, h6⟩ := brace_len h
                  rw [h6]; simp only [if_true]; omega
            · obtain ⟨h5, h6⟩ := brace_len h
              rw [h6]; simp only [if_true]; omega
        · injection h with hm h _; rw [← h, ← hm]; simp
end Tr
open Tr (accI accN accS)
section
variable {w0 w w1 : World} {base g : Nat} {l r : List UInt8} {p op : Nat} {ns : List Nd} {ps : List Pt} {vN vP : Value}
theorem post_tms (n : Nat) (x : T) (a b : Int) : post n (.tms x a b) = post n x ++ [⟨5, W4.zero, rootI n x, 0, a, b⟩] := rfl
theorem node_tms {N : List Nd} (x : T) (a b : Int) (hn : N.length + sz x ≤ 100000) (h : RS w base g l r p op (N ++ post N.length x) ps vN vP) : Calls Tryd.prog 69 #[.pointer (some ⟨g, 0, none⟩), .agg #[.int .u8 5, .int .u64 0, .int .u64 0, .int .u64 0, .int .u64 0, .int .i64 (rootI N.length x), .int .i64 0, .int .i64 a, .int .i64 b]] w fun e w' => e = .returned (.int .i64 (rootI N.length (.tms x a b))) ∧ (∃ vN', RS w' base g l r p op (N ++ post N.length (.tms x a b)) ps vN' vP) ∧ Below base w w' := by
  have hl : (N ++ post N.length x).length = N.length + sz x := by rw [List.length_append, Tr.post_len]
  refine (rdnode_any ⟨5, W4.zero, rootI N.length x, 0, a, b⟩ (by rw [hl]; exact hn) h).mono ?_
  rintro e w' ⟨rfl, hR, hB⟩
  refine ⟨?_, ?_, hB⟩
  · rw [hl]; congr 2; unfold rootI; simp only [sz]; omega
  · rw [post_tms, ← List.append_assoc]; exact hR
theorem node_seq {N M : List Nd} (a b : T) (hM : M = N ++ post N.length a) (hn : M.length + sz b ≤ 100000) (h : RS w base g l r p op (M ++ post M.length b) ps vN vP) : Calls Tryd.prog 69 #[.pointer (some ⟨g, 0, none⟩), .agg #[.int .u8 3, .int .u64 0, .int .u64 0, .int .u64 0, .int .u64 0, .int .i64 (rootI N.length a), .int .i64 (rootI M.length b), .int .i64 0, .int .i64 0]] w fun e w' => e = .returned (.int .i64 (rootI N.length (.seq a b))) ∧ (∃ vN', RS w' base g l r p op (N ++ post N.length (.seq a b)) ps vN' vP) ∧ Below base w w' := by
  have hm : M.length = N.length + sz a := by rw [hM, List.length_append, Tr.post_len]
  have hl : (M ++ post M.length b).length = N.length + sz a + sz b := by rw [List.length_append, Tr.post_len, hm]
  refine (rdnode_any ⟨3, W4.zero, rootI N.length a, rootI M.length b, 0, 0⟩ (by rw [hl, ← hm]; exact hn) h).mono ?_
  rintro e w' ⟨rfl, hR, hB⟩
  refine ⟨?_, ?_, hB⟩
  · rw [hl]; congr 2; unfold rootI; simp only [sz]; omega
  · have e1 : N ++ post N.length (.seq a b) = M ++ post M.length b ++ [⟨3, W4.zero, rootI N.length a, rootI M.length b, 0, 0⟩] := by
      rw [hm, hM]; simp only [post, List.append_assoc]
    rw [e1]; exact hR
theorem node_alt {N M : List Nd} (a b : T) (hM : M = N ++ post N.length a) (hn : M.length + sz b ≤ 100000) (h : RS w base g l r p op (M ++ post M.length b) ps vN vP) : Calls Tryd.prog 69 #[.pointer (some ⟨g, 0, none⟩), .agg #[.int .u8 4, .int .u64 0, .int .u64 0, .int .u64 0, .int .u64 0, .int .i64 (rootI N.length a), .int .i64 (rootI M.length b), .int .i64 0, .int .i64 0]] w fun e w' => e = .returned (.int .i64 (rootI N.length (.alt a b))) ∧ (∃ vN', RS w' base g l r p op (N ++ post N.length (.alt a b)) ps vN' vP) ∧ Below base w w' := by
  have hm : M.length = N.length + sz a := by rw [hM, List.length_append, Tr.post_len]
  have hl : (M ++ post M.length b).length = N.length + sz a + sz b := by rw [List.length_append, Tr.post_len, hm]
  refine (rdnode_any ⟨4, W4.zero, rootI N.length a, rootI M.length b, 0, 0⟩ (by rw [hl, ← hm]; exact hn) h).mono ?_
  rintro e w' ⟨rfl, hR, hB⟩
  refine ⟨?_, ?_, hB⟩
  · rw [hl]; congr 2; unfold rootI; simp only [sz]; omega
  · have e1 : N ++ post N.length (.alt a b) = M ++ post M.length b ++ [⟨4, W4.zero, rootI N.length a, rootI M.length b, 0, 0⟩] := by
      rw [hm, hM]; simp only [post, List.append_assoc]
    rw [e1]; exact hR
theorem node_emp {N : List Nd} (hn : N.length ≤ 100000) (h : RS w base g l r p op N ps vN vP) : Calls Tryd.prog 69 #[.pointer (some ⟨g, 0, none⟩), .agg #[.int .u8 1, .int .u64 0, .int .u64 0, .int .u64 0, .int .u64 0, .int .i64 0, .int .i64 0, .int .i64 0, .int .i64 0]] w fun e w' => e = .returned (.int .i64 (rootI N.length .emp)) ∧ (∃ vN', RS w' base g l r p op (N ++ post N.length .emp) ps vN' vP) ∧ Below base w w' := by
  refine (rdnode_any ⟨1, W4.zero, 0, 0, 0, 0⟩ hn h).mono ?_
  rintro e w' ⟨rfl, hR, hB⟩
  refine ⟨?_, hR, hB⟩
  congr 2; unfold rootI; simp only [sz]; omega
theorem root_ge (n : Nat) (t : T) : 0 ≤ rootI n t := by have := Tr.sz_pos t; unfold rootI; omega
set_option maxRecDepth 100000 in
set_option maxHeartbeats 6400000 in
theorem branch_any {f0 d : Nat} (HG : GroupSaid f0 d) (hop : op + d = 16) (hf : l.length < f0) (hK : ns.length + 2 * r.length ≤ 90000) (h : RS w base g l r p op ns ps vN vP) :
    Calls Tryd.prog 68 #[.pointer (some ⟨g, 0, none⟩)] w (OutN w base g l op ns ps vP (2 * r.length + 1) (Tr.bra f0 (Tr.grp f0 d) f0 none r p)) := by
  have H := Lib.hid h
  have HGS := Lib.hid HG
  have HN := Lib.hid (And.intro hop (And.intro hf hK))
  generalize ht : Tr.bra f0 (Tr.grp f0 d) f0 none r p = res
  have HT := Lib.hid ht
  have hrf : Hid (r.length < f0) := Lib.hid (by have := h.pl; omega)
  clear h ht HG hop hf hK
  go_enter Tryd.func68, Tryd.ntmps68
  go_wp2_with fail
  go_loopw [3] (fun v3 wr => ∃ (acc : Option T) (r2 : List UInt8) (p2 f : Nat) (vN' : Value), v3 = .int .i64 (accI ns.length acc) ∧ r2.length < f ∧ accS acc + 2 * r2.length ≤ 2 * r.length ∧ Hid (Tr.bra f0 (Tr.grp f0 d) f acc r2 p2 = res) ∧ Hid (RS wr base g l r2 p2 op (ns ++ accN ns.length acc) ps vN' vP) ∧ Hid (Below base w wr)) (fun _ wr => l.length - posOf wr g)
  case atStart => exact ⟨none, r, p, f0, vN, rfl, hrf.out, by simp [accS], HT, Lib.hid (by rw [show ns ++ accN ns.length none = ns from List.append_nil _]; exact H.out), Lib.hid (Below.refl _ _)⟩
  case round =>
    clear HT
    obtain ⟨acc, r2, p2, f, vN', rfl, hf, hs, HC, HR, HB⟩ := hrel
    rcases f with _ | f
    · omega
    have HM := Lib.hid HR.out.pos
    have HZp := Lib.hid HR.out.pl
    obtain ⟨N, hN⟩ : ∃ N, N = ns ++ accN ns.length acc := ⟨_, rfl⟩
    have HNN := Lib.hid hN
    have HNS := Lib.hid (show N.length = ns.length + accS acc by rw [hN, List.length_append, Tr.accN_len])
    rw [← hN] at HR
    clear hN
    cases hst : Tr.stops r2
    · rcases r2 with _ | ⟨c, t⟩
      · cases hst
      · have HST := Lib.hid hst
        have e1 : (c == 124) = false ∧ (c == 41) = false ∧ (c == 38) = false := by
          have : ((c == 124 || c == 41) || c == 38) = false := hst
          simp only [Bool.or_eq_false_iff] at this
          exact ⟨this.1.1, this.1.2, this.2⟩
        obtain ⟨e1, e2, e3⟩ := e1
        have t1 : ((c.toNat : Int) == 124) = false := by have := u8_beq c 124; rw [e1] at this; exact this
        have t2 : ((c.toNat : Int) == 41) = false := by have := u8_beq c 41; rw [e2] at this; exact this
        have t3 : ((c.toNat : Int) == 38) = false := by have := u8_beq c 38; rw [e3] at this; exact this
        clear hst e1 e2 e3
        replace HC := Lib.hid ((Tr.bra_go HST.out).symm.trans HC.out)
        go_wp2_with fail
        refine (next_some HR.out).mono ?_
        rintro e w1 ⟨rfl, B1⟩
        have HR1 := Lib.hid (HR.out.below B1)
        have HB1 := Lib.hid (HB.out.trans (B1.mono HR.out.lt))
        clear B1
        go_wp2_with fail
        refine (atom_any HGS.out c HN.out.1 HN.out.2.1 (by have := HN.out; rw [HNS.out]; simp only [List.length_cons] at *; omega) HR1.out).mono ?_
        rintro e w2 hO
        cases ha : Tr.atm f0 (Tr.grp f0 d) c t p2 with
        | no q x =>
          rw [ha] at hO HC
          obtain ⟨rfl, B2⟩ := hO
          refine ⟨rfl, ?_⟩
          rw [← HC.out]
          exact OutN.fail (HB1.out.trans B2)
        | ok x l1 p1 =>
          rw [ha] at hO HC
          obtain ⟨rfl, ⟨vN2, hR2⟩, B2, hs2⟩ := hO
          have HR2 := Lib.hid hR2
          have HB2 := Lib.hid (HB1.out.trans B2)
          clear hR2 B2 HR1 HB1 HR HB ha
          replace HC : Hid (((Tr.tim l1 p1).bnd fun m l2 p2 => Tr.bra f0 (Tr.grp f0 d) f (some (Tr.sqd (Tr.tmd x m) acc)) l2 p2) = res) := HC
          go_wp2_with fail
          refine (rdtimes_any HR2.out).mono ?_
          rintro e w3 hO
          cases ha : Tr.tim l1 p1 with
          | no q x =>
            rw [ha] at hO HC
            obtain ⟨rfl, B3⟩ := hO
            refine ⟨rfl, ?_⟩
            rw [← HC.out]
            exact OutN.fail (HB2.out.trans (HR2.out.bs B3))
          | ok m l2 p3 =>
            rw [ha] at hO HC
            have HTL := Lib.hid (Tr.tim_len ha)
            obtain ⟨rfl, hR3, B3⟩ := hO
            have HR3 := Lib.hid hR3
            have HB3 := Lib.hid (HB2.out.trans (HR2.out.bs B3))
            clear hR3 B3 HR2 HB2 ha
            replace HC : Hid (Tr.bra f0 (Tr.grp f0 d) f (some (Tr.sqd (Tr.tmd x m) acc)) l2 p3 = res) := HC
            cases m with
            | none =>
              unfold encT
              have HS := Lib.hid (show sz x + 2 * l2.length ≤ 2 * t.length + 1 by have := HTL.out; simp at this; omega)
              replace HC : Hid (Tr.bra f0 (Tr.grp f0 d) f (some (Tr.sqd x acc)) l2 p3 = res) := HC
              have HR4 := HR3
              have HB4 := HB3
              clear HR3 HB3 HTL
              cases acc with
              | none =>
                have ea : accI ns.length none = -1 := rfl
                have en : Hid (N = ns) := Lib.hid (HNN.out.trans (List.append_nil _))
                go_wp2_with fail
                go_roundw
                case rel => exact ⟨some x, l2, p3, f, _, by rw [en.out]; rfl, by simp only [List.length_cons] at *; have := HS.out; have := Tr.sz_pos x; omega, by simp only [List.length_cons, accS] at *; have := HS.out; omega, HC, Lib.hid (by have := HR4.out; rw [en.out] at this; exact this), HB4⟩
                case measure => rw [HR4.out.pos, HM.out]; have e1 := HR4.out.pl; have := HZp.out; have := HS.out; have := Tr.sz_pos x; simp only [List.length_cons] at *; omega
              | some t0 =>
                have ea : accI ns.length (some t0) = rootI ns.length t0 := rfl
                have eb : decide (0 ≤ rootI ns.length t0) = true := decide_eq_true (root_ge _ _)
                go_wp2_with fail
                refine (node_seq t0 x HNN.out (by have := HN.out; have := HNS.out; have := HS.out; simp only [List.length_cons, accS] at *; omega) HR4.out).mono ?_
                rintro e w5 ⟨rfl, ⟨vN5, hR5⟩, B5⟩
                have HR5 := Lib.hid hR5
                have HB5 := Lib.hid (HB4.out.trans B5)
                clear hR5 B5 HR4 HB4
                go_wp2_with fail
                go_roundw
                case rel => exact ⟨some (.seq t0 x), l2, p3, f, _, rfl, by simp only [List.length_cons] at *; have := HS.out; have := Tr.sz_pos x; omega, by simp only [List.length_cons, accS, sz] at *; have := HS.out; omega, HC, HR5, HB5⟩
                case measure => rw [HR5.out.pos, HM.out]; have e1 := HR5.out.pl; have := HZp.out; have := HS.out; have := Tr.sz_pos x; simp only [List.length_cons] at *; omega
            | some m =>
              obtain ⟨a, b⟩ := m
              unfold encT
              have HS := Lib.hid (show sz (.tms x a b) + 2 * l2.length ≤ 2 * t.length + 1 by have := HTL.out; simp at this; simp only [sz]; omega)
              replace HC : Hid (Tr.bra f0 (Tr.grp f0 d) f (some (Tr.sqd (.tms x a b) acc)) l2 p3 = res) := HC
              go_wp2_with fail
              refine (node_tms x a b (by have := HN.out; have := HNS.out; simp only [List.length_cons] at *; omega) HR3.out).mono ?_
              rintro e w4 ⟨rfl, ⟨vN4, hR4⟩, B4⟩
              have HR4 := Lib.hid hR4
              have HB4 := Lib.hid (HB3.out.trans B4)
              clear hR4 B4 HR3 HB3 HTL
              cases acc with
              | none =>
                have ea : accI ns.length none = -1 := rfl
                have en : Hid (N = ns) := Lib.hid (HNN.out.trans (List.append_nil _))
                go_wp2_with fail
                go_roundw
                case rel => exact ⟨some (.tms x a b), l2, p3, f, _, by rw [en.out]; rfl, by simp only [List.length_cons] at *; have := HS.out; have := Tr.sz_pos (.tms x a b); omega, by simp only [List.length_cons, accS] at *; have := HS.out; omega, HC, Lib.hid (by have := HR4.out; rw [en.out] at this; exact this), HB4⟩
                case measure => rw [HR4.out.pos, HM.out]; have e1 := HR4.out.pl; have := HZp.out; have := HS.out; have := Tr.sz_pos (.tms x a b); simp only [List.length_cons] at *; omega
              | some t0 =>
                have ea : accI ns.length (some t0) = rootI ns.length t0 := rfl
                have eb : decide (0 ≤ rootI ns.length t0) = true := decide_eq_true (root_ge _ _)
                go_wp2_with fail
                refine (node_seq t0 (.tms x a b) HNN.out (by have := HN.out; have := HNS.out; have := HS.out; simp only [List.length_cons, accS] at *; omega) HR4.out).mono ?_
                rintro e w5 ⟨rfl, ⟨vN5, hR5⟩, B5⟩
                have HR5 := Lib.hid hR5
                have HB5 := Lib.hid (HB4.out.trans B5)
                clear hR5 B5 HR4 HB4
                go_wp2_with fail
                go_roundw
                case rel => exact ⟨some (.seq t0 (.tms x a b)), l2, p3, f, _, rfl, by simp only [List.length_cons] at *; have := HS.out; have := Tr.sz_pos (.tms x a b); omega, by simp only [List.length_cons, accS, sz] at *; have := HS.out; omega, HC, HR5, HB5⟩
                case measure => rw [HR5.out.pos, HM.out]; have e1 := HR5.out.pl; have := HZp.out; have := HS.out; have := Tr.sz_pos (.tms x a b); simp only [List.length_cons] at *; omega
    · have hres : Hid (res = .ok (acc.getD .emp) r2 p2) := Lib.hid (HC.out.symm.trans (Tr.bra_stop' hst))
      rcases r2 with _ | ⟨c, t⟩
      ·
        go_wp2_with fail
        refine (next_none HR.out).mono ?_
        rintro e w1 ⟨rfl, B1⟩
        have HR1 := Lib.hid (HR.out.below B1)
        have HB1 := Lib.hid (HB.out.trans (B1.mono HR.out.lt))
        clear B1 HR HB
        cases acc with
        | none =>
          have ea : accI ns.length none = -1 := rfl
          have en : Hid (N = ns) := Lib.hid (HNN.out.trans (List.append_nil _))
          go_wp2_with fail
          refine (node_emp (by have := HN.out; have := HNS.out; simp only [accS] at *; omega) HR1.out).mono ?_
          rintro e w2 ⟨rfl, ⟨vN2, hR2⟩, B2⟩
          have HZ : Hid ((∃ vN', RS w2 base g l _ p2 op (ns ++ post ns.length .emp) ps vN' vP) ∧ Below base w w2) := Lib.hid ⟨⟨vN2, by rw [en.out] at hR2; exact hR2⟩, HB1.out.trans B2⟩
          clear hR2 B2
          go_wp2_with fail
          rw [show res = .ok .emp _ p2 from hres.out]
          go_ret
          exact ⟨by rw [en.out]; rfl, HZ.out.1, HZ.out.2, by simp only [accS, sz] at *; omega⟩
        | some t0 =>
          have ea : accI ns.length (some t0) = rootI ns.length t0 := rfl
          have eb : decide (rootI ns.length t0 < 0) = false := decide_eq_false (by have := root_ge ns.length t0; omega)
          have HZ : Hid ((∃ vN', RS w1 base g l _ p2 op (ns ++ post ns.length t0) ps vN' vP) ∧ Below base w w1) := Lib.hid ⟨⟨vN', by have := HR1.out; rw [HNN.out] at this; exact this⟩, HB1.out⟩
          go_wp2_with fail
          rw [show res = .ok t0 _ p2 from hres.out]
          go_ret
          exact ⟨rfl, HZ.out.1, HZ.out.2, by simp only [accS] at *; omega⟩
      · have e1 : (c == 124 || c == 41 || c == 38) = true := hst
        have e2 : (c == 124) = true ∨ ((c == 124) = false ∧ (c == 41) = true) ∨ ((c == 124) = false ∧ (c == 41) = false ∧ (c == 38) = true) := by
          cases h1 : (c == 124)
          · cases h2 : (c == 41)
            · rw [h1, h2] at e1; exact .inr (.inr ⟨rfl, rfl, e1⟩)
            · exact .inr (.inl ⟨rfl, rfl⟩)
          · exact .inl rfl
        clear e1 hst
        rcases e2 with e1 | ⟨e1, e2⟩ | ⟨e1, e2, e3⟩
        · have t1 : ((c.toNat : Int) == 124) = true := by have := u8_beq c 124; rw [e1] at this; exact this
          clear e1
          go_wp2_with fail
          refine (next_some HR.out).mono ?_
          rintro e w1 ⟨rfl, B1⟩
          have HR1 := Lib.hid (HR.out.below B1)
          have HB1 := Lib.hid (HB.out.trans (B1.mono HR.out.lt))
          clear B1 HR HB
          cases acc with
          | none =>
            have ea : accI ns.length none = -1 := rfl
            have en : Hid (N = ns) := Lib.hid (HNN.out.trans (List.append_nil _))
            go_wp2_with fail
            refine (node_emp (by have := HN.out; have := HNS.out; simp only [accS] at *; omega) HR1.out).mono ?_
            rintro e w2 ⟨rfl, ⟨vN2, hR2⟩, B2⟩
            have HZ : Hid ((∃ vN', RS w2 base g l _ p2 op (ns ++ post ns.length .emp) ps vN' vP) ∧ Below base w w2) := Lib.hid ⟨⟨vN2, by rw [en.out] at hR2; exact hR2⟩, HB1.out.trans B2⟩
            clear hR2 B2
            go_wp2_with fail
            rw [show res = .ok .emp _ p2 from hres.out]
            go_ret
            exact ⟨by rw [en.out]; rfl, HZ.out.1, HZ.out.2, by simp only [accS, sz] at *; omega⟩
          | some t0 =>
            have ea : accI ns.length (some t0) = rootI ns.length t0 := rfl
            have eb : decide (rootI ns.length t0 < 0) = false := decide_eq_false (by have := root_ge ns.length t0; omega)
            have HZ : Hid ((∃ vN', RS w1 base g l _ p2 op (ns ++ post ns.length t0) ps vN' vP) ∧ Below base w w1) := Lib.hid ⟨⟨vN', by have := HR1.out; rw [HNN.out] at this; exact this⟩, HB1.out⟩
            go_wp2_with fail
            rw [show res = .ok t0 _ p2 from hres.out]
            go_ret
            exact ⟨rfl, HZ.out.1, HZ.out.2, by simp only [accS] at *; omega⟩
        · have t1 : ((c.toNat : Int) == 124) = false := by have := u8_beq c 124; rw [e1] at this; exact this
          have t2 : ((c.toNat : Int) == 41) = true := by have := u8_beq c 41; rw [e2] at this; exact this
          clear e1 e2
          go_wp2_with fail
          refine (next_some HR.out).mono ?_
          rintro e w1 ⟨rfl, B1⟩
          have HR1 := Lib.hid (HR.out.below B1)
          have HB1 := Lib.hid (HB.out.trans (B1.mono HR.out.lt))
          clear B1 HR HB
          cases acc with
          | none =>
            have ea : accI ns.length none = -1 := rfl
            have en : Hid (N = ns) := Lib.hid (HNN.out.trans (List.append_nil _))
            go_wp2_with fail
            refine (node_emp (by have := HN.out; have := HNS.out; simp only [accS] at *; omega) HR1.out).mono ?_
            rintro e w2 ⟨rfl, ⟨vN2, hR2⟩, B2⟩
            have HZ : Hid ((∃ vN', RS w2 base g l _ p2 op (ns ++ post ns.length .emp) ps vN' vP) ∧ Below base w w2) := Lib.hid ⟨⟨vN2, by rw [en.out] at hR2; exact hR2⟩, HB1.out.trans B2⟩
            clear hR2 B2
            go_wp2_with fail
            rw [show res = .ok .emp _ p2 from hres.out]
            go_ret
            exact ⟨by rw [en.out]; rfl, HZ.out.1, HZ.out.2, by simp only [accS, sz] at *; omega⟩
          | some t0 =>
            have ea : accI ns.length (some t0) = rootI ns.length t0 := rfl
            have eb : decide (rootI ns.length t0 < 0) = false := decide_eq_false (by have := root_ge ns.length t0; omega)
            have HZ : Hid ((∃ vN', RS w1 base g l _ p2 op (ns ++ post ns.length t0) ps vN' vP) ∧ Below base w w1) := Lib.hid ⟨⟨vN', by have := HR1.out; rw [HNN.out] at this; exact this⟩, HB1.out⟩
            go_wp2_with fail
            rw [show res = .ok t0 _ p2 from hres.out]
            go_ret
            exact ⟨rfl, HZ.out.1, HZ.out.2, by simp only [accS] at *; omega⟩
        · have t1 : ((c.toNat : Int) == 124) = false := by have := u8_beq c 124; rw [e1] at this; exact this
          have t2 : ((c.toNat : Int) == 41) = false := by have := u8_beq c 41; rw [e2] at this; exact this
          have t3 : ((c.toNat : Int) == 38) = true := by have := u8_beq c 38; rw [e3] at this; exact this
          clear e1 e2 e3
          go_wp2_with fail
          refine (next_some HR.out).mono ?_
          rintro e w1 ⟨rfl, B1⟩
          have HR1 := Lib.hid (HR.out.below B1)
          have HB1 := Lib.hid (HB.out.trans (B1.mono HR.out.lt))
          clear B1 HR HB
          cases acc with
          | none =>
            have ea : accI ns.length none = -1 := rfl
            have en : Hid (N = ns) := Lib.hid (HNN.out.trans (List.append_nil _))
            go_wp2_with fail
            refine (node_emp (by have := HN.out; have := HNS.out; simp only [accS] at *; omega) HR1.out).mono ?_
            rintro e w2 ⟨rfl, ⟨vN2, hR2⟩, B2⟩
            have HZ : Hid ((∃ vN', RS w2 base g l _ p2 op (ns ++ post ns.length .emp) ps vN' vP) ∧ Below base w w2) := Lib.hid ⟨⟨vN2, by rw [en.out] at hR2; exact hR2⟩, HB1.out.trans B2⟩
            clear hR2 B2
            go_wp2_with fail
            rw [show res = .ok .emp _ p2 from hres.out]
            go_ret
            exact ⟨by rw [en.out]; rfl, HZ.out.1, HZ.out.2, by simp only [accS, sz] at *; omega⟩
          | some t0 =>
            have ea : accI ns.length (some t0) = rootI ns.length t0 := rfl
            have eb : decide (rootI ns.length t0 < 0) = false := decide_eq_false (by have := root_ge ns.length t0; omega)
            have HZ : Hid ((∃ vN', RS w1 base g l _ p2 op (ns ++ post ns.length t0) ps vN' vP) ∧ Below base w w1) := Lib.hid ⟨⟨vN', by have := HR1.out; rw [HNN.out] at this; exact this⟩, HB1.out⟩
            go_wp2_with fail
            rw [show res = .ok t0 _ p2 from hres.out]
            go_ret
            exact ⟨rfl, HZ.out.1, HZ.out.2, by simp only [accS] at *; omega⟩
end
end Go.Proofs.YtebkaajnnjfhjaaDoor
namespace Go.Proofs.YtebkaajnnjfhjaaDoor
set_option linter.unusedVariables false
set_option linter.unusedSimpArgs false
open Go.RowKit Go.Proofs.YtebkaajnnjfhjaaDoorW.PrintWords
open Tr (Nd Pt T R sz rootI post)

namespace Tr
theorem pts_stop' {f0 f : Nat} {g : Nat → B → Nat → R T} {t : T} {l : B} {p : Nat} (h : nx 124 l = false) : pts f0 g (f + 1) t l p = .ok t l p := by rw [pts, h]; rfl
theorem pts_go {f0 f : Nat} {g : Nat → B → Nat → R T} {t : T} {l : B} {p : Nat} : pts f0 g (f + 1) t (124 :: l) p = (bra f0 g f0 none l (p + 1)).bnd fun x l1 p1 => pts f0 g f (.alt t x) l1 p1 := rfl
end Tr
section
variable {w0 w w1 : World} {base g : Nat} {l r : List UInt8} {p op : Nat} {ns : List Nd} {ps : List Pt} {vN vP : Value}
set_option maxRecDepth 100000 in
set_option maxHeartbeats 3200000 in
theorem pattern_any {f0 d : Nat} (HG : GroupSaid f0 d) (hop : op + d = 16) (hf : l.length < f0) (hK : ns.length + 2 * r.length ≤ 90000) (h : RS w base g l r p op ns ps vN vP) :
    Calls Tryd.prog 57 #[.pointer (some ⟨g, 0, none⟩)] w (OutN w base g l op ns ps vP (2 * r.length + 1) (Tr.pat f0 (Tr.grp f0 d) r p)) := by
  have H := Lib.hid h
  have HGS := Lib.hid HG
  have HN := Lib.hid (And.intro hop (And.intro hf hK))
  have ht : Tr.pat f0 (Tr.grp f0 d) r p = (Tr.bra f0 (Tr.grp f0 d) f0 none r p).bnd fun t l1 p1 => Tr.pts f0 (Tr.grp f0 d) f0 t l1 p1 := rfl
  generalize Tr.pat f0 (Tr.grp f0 d) r p = res at ht ⊢
  have HT := Lib.hid ht
  clear h ht HG hop hf hK
  go_enter Tryd.func57, Tryd.ntmps57
  go_wp2_with fail
  refine (branch_any HGS.out HN.out.1 HN.out.2.1 HN.out.2.2 H.out).mono ?_
  rintro e w1 hO
  cases ha : Tr.bra f0 (Tr.grp f0 d) f0 none r p with
  | no q x =>
    rw [ha] at hO HT
    obtain ⟨rfl, B2⟩ := hO
    refine ⟨rfl, ?_⟩
    rw [HT.out]
    exact OutN.fail B2
  | ok t l1 p1 =>
    rw [ha] at hO HT
    obtain ⟨rfl, ⟨vN1, hR1⟩, B1, hs1⟩ := hO
    have HR1 := Lib.hid hR1
    have HB1 := Lib.hid B1
    have HS1 := Lib.hid hs1
    clear hR1 B1 hs1 ha
    replace HT : Hid (Tr.pts f0 (Tr.grp f0 d) f0 t l1 p1 = res) := Lib.hid HT.out.symm
    go_wp2_with fail
    go_loopw [3] (fun v3 wr => ∃ (acc : T) (r2 : List UInt8) (p2 f : Nat) (vN' : Value), v3 = .int .i64 (rootI ns.length acc) ∧ r2.length < f ∧ sz acc + 2 * r2.length ≤ 2 * r.length + 1 ∧ Hid (Tr.pts f0 (Tr.grp f0 d) f acc r2 p2 = res) ∧ Hid (RS wr base g l r2 p2 op (ns ++ post ns.length acc) ps vN' vP) ∧ Hid (Below base w wr)) (fun _ wr => l.length - posOf wr g)
    case atStart => exact ⟨t, l1, p1, f0, vN1, rfl, by have := HR1.out.pl; have := HN.out; omega, HS1.out, HT, HR1, HB1⟩
    case round =>
      clear HT HR1 HB1 HS1
      obtain ⟨acc, r2, p2, f, vN', rfl, hf, hs, HC, HR, HB⟩ := hrel
      rcases f with _ | f
      · omega
      have HM := Lib.hid HR.out.pos
      have HZp := Lib.hid HR.out.pl
      have HI := is_any 124 HR.out
      cases h124 : Tr.nx 124 r2
      · rw [h124] at HI
        have hres : Hid (res = .ok acc r2 p2) := Lib.hid (HC.out.symm.trans (Tr.pts_stop' h124))
        clear h124
        go_wp2_with fail
        refine HI.mono ?_
        rintro e w2 ⟨rfl, hR2, B2⟩
        have HZ : Hid ((∃ vN', RS w2 base g l r2 p2 op (ns ++ post ns.length acc) ps vN' vP) ∧ Below base w w2) := Lib.hid ⟨⟨vN', hR2⟩, HB.out.trans (HR.out.bs B2)⟩
        clear hR2 B2
        go_wp2_with fail
        rw [hres.out]
        go_ret
        exact ⟨rfl, HZ.out.1, HZ.out.2, hs⟩
      · obtain ⟨r3, rfl⟩ := Tr.nx_cons h124
        rw [h124] at HI
        clear h124
        replace HC := Lib.hid (Tr.pts_go.symm.trans HC.out)
        go_wp2_with fail
        refine HI.mono ?_
        rintro e w2 ⟨rfl, hR2, B2⟩
        obtain ⟨M, hM⟩ : ∃ M, M = ns ++ post ns.length acc := ⟨_, rfl⟩
        have HMM := Lib.hid hM
        have HML := Lib.hid (show M.length = ns.length + sz acc by rw [hM, List.length_append, Tr.post_len])
        have HR2 : Hid (RS w2 base g l r3 (p2 + 1) op M ps vN' vP) := Lib.hid (by rw [hM]; exact hR2)
        have HB2 := Lib.hid (HB.out.trans (HR.out.bs B2))
        clear hR2 B2 HR HB hM
        go_wp2_with fail
        refine (branch_any HGS.out HN.out.1 HN.out.2.1 (by have := HN.out; rw [HML.out]; simp only [List.length_cons] at *; omega) HR2.out).mono ?_
        rintro e w3 hO
        cases ha : Tr.bra f0 (Tr.grp f0 d) f0 none r3 (p2 + 1) with
        | no q x =>
          rw [ha] at hO HC
          obtain ⟨rfl, B3⟩ := hO
          refine ⟨rfl, ?_⟩
          rw [← HC.out]
          exact OutN.fail (HB2.out.trans B3)
        | ok x l3 p3 =>
          rw [ha] at hO HC
          obtain ⟨rfl, ⟨vN3, hR3⟩, B3, hs3⟩ := hO
          have HR3 := Lib.hid hR3
          have HB3 := Lib.hid (HB2.out.trans B3)
          have HS3 := Lib.hid hs3
          clear hR3 B3 HR2 HB2 ha hs3
          replace HC : Hid (Tr.pts f0 (Tr.grp f0 d) f (.alt acc x) l3 p3 = res) := HC
          go_wp2_with fail
          refine (node_alt acc x HMM.out (by have := HN.out; have := HML.out; have := HS3.out; simp only [List.length_cons] at *; omega) HR3.out).mono ?_
          rintro e w5 ⟨rfl, ⟨vN5, hR5⟩, B5⟩
          have HR5 := Lib.hid hR5
          have HB5 := Lib.hid (HB3.out.trans B5)
          clear hR5 B5 HR3 HB3
          go_wp2_with fail
          go_roundw
          case rel => exact ⟨.alt acc x, l3, p3, f, _, rfl, by simp only [List.length_cons] at *; have := HS3.out; have := Tr.sz_pos x; omega, by simp only [List.length_cons, sz] at *; have := HS3.out; omega, HC, HR5, HB5⟩
          case measure => rw [HR5.out.pos, HM.out]; have e1 := HR5.out.pl; have := HZp.out; have := HS3.out; have := Tr.sz_pos x; simp only [List.length_cons] at *; omega
set_option maxRecDepth 100000 in
set_option maxHeartbeats 1600000 in
theorem group_any (f0 : Nat) : ∀ d, GroupSaid f0 d := by
  intro d
  induction d with
  | zero =>
    intro w base g l r p op ns ps vN vP pl hop hf hK h
    obtain rfl : op = 16 := by omega
    have H := Lib.hid h
    obtain ⟨c0, c1, c2, c3, c4⟩ := h.cells
    have hres : Hid (Tr.grp f0 0 pl r p = .no pl 3) := Lib.hid rfl
    clear h
    go_enter Tryd.func81, Tryd.ntmps81
    go_wp2_with fail
    refine (fails_any pl 3).mono ?_
    rintro e w3 ⟨rfl, B3⟩
    refine ⟨rfl, ?_⟩
    rw [hres.out]
    exact OutN.fail (H.out.bs (H.out.fr B3))
  | succ d ih =>
    intro w base g l r p op ns ps vN vP pl hop hf hK h
    have HGS := Lib.hid ih
    have H := Lib.hid h
    have HN := Lib.hid (And.intro hop (And.intro hf hK))
    obtain ⟨c0, c1, c2, c3, c4⟩ := h.cells
    have f2 := h.ice 2
    have ht : Tr.grp f0 (d + 1) pl r p = (Tr.pat f0 (Tr.grp f0 d) r p).bnd fun t l1 p1 => if Tr.nx 41 l1 then .ok t (l1.drop 1) (p1 + 1) else .no p1 8 := rfl
    generalize Tr.grp f0 (d + 1) pl r p = res at ht ⊢
    have HT := Lib.hid ht
    have h16 : ((op : Int) == 16) = false := by simp; omega
    have W1 : IntKind.i64.wrap ((op : Int) + 1) = ((op + 1 : Nat) : Int) := by rw [IntWalk.i64_in _ (by omega)]; rfl
    have W2 : IntKind.i64.wrap (((op + 1 : Nat) : Int) - 1) = (op : Int) := by rw [IntWalk.i64_in _ (by omega)]; omega
    have W3 : wrap64 (op : Int) = (op : Int) := by unfold wrap64; omega
    have h1 : Hid (RS (w.setCell ⟨g, 2, none⟩ (.int .i64 ((op + 1 : Nat) : Int))) base g l r p (op + 1) ns ps vN vP) := Lib.hid (h.setOp (op + 1) (by omega))
    have HB1 : Hid (Below base w (w.setCell ⟨g, 2, none⟩ (.int .i64 ((op + 1 : Nat) : Int)))) := Lib.hid (H.out.bs ((Bg.refl g w).set 2 _))
    clear h ht ih hop hf hK
    go_enter Tryd.func81, Tryd.ntmps81
    go_wp2_with fail
    refine (pattern_any HGS.out (by have := HN.out; omega) HN.out.2.1 HN.out.2.2 h1.out).mono ?_
    rintro e w2 hO
    cases ha : Tr.pat f0 (Tr.grp f0 d) r p with
    | no q x =>
      rw [ha] at hO HT
      obtain ⟨rfl, B2⟩ := hO
      refine ⟨rfl, ?_⟩
      rw [HT.out]
      exact OutN.fail (HB1.out.trans B2)
    | ok t l1 p1 =>
      rw [ha] at hO HT
      obtain ⟨rfl, ⟨vN2, hR2⟩, B2, hs2⟩ := hO
      have HR2 := Lib.hid hR2
      have HB2 := Lib.hid (HB1.out.trans B2)
      have HS2 := Lib.hid hs2
      clear hR2 B2 hs2 ha HB1 h1
      go_wp2_with fail
      have HI := is_any 41 HR2.out
      cases h41 : Tr.nx 41 l1
      · rw [h41] at HI
        replace HT : Hid (res = .no p1 8) := Lib.hid (HT.out.trans (by simp only [R.bnd, h41]; rfl))
        clear h41
        refine HI.mono ?_
        rintro e w3 ⟨rfl, hR3, B3⟩
        have HR3 : Hid (RS w3 base g l l1 p1 (op + 1) (ns ++ post ns.length t) ps vN2 vP) := Lib.hid hR3
        have HB3 := Lib.hid (HB2.out.trans (HR2.out.bs B3))
        clear hR3 B3 HR2 HB2
        have d1 := HR3.out.cells.2.1
        go_wp2_with fail
        refine (fails_any p1 8).mono ?_
        rintro e w4 ⟨rfl, B4⟩
        refine ⟨rfl, ?_⟩
        rw [HT.out]
        exact OutN.fail (HB3.out.trans (HR3.out.bs (HR3.out.fr B4)))
      · obtain ⟨l2, rfl⟩ := Tr.nx_cons h41
        rw [h41] at HI
        replace HT : Hid (res = .ok t l2 (p1 + 1)) := Lib.hid (HT.out.trans (by simp only [R.bnd, h41]; rfl))
        clear h41
        refine HI.mono ?_
        rintro e w3 ⟨rfl, hR3, B3⟩
        have HR3 : Hid (RS w3 base g l l2 (p1 + 1) (op + 1) (ns ++ post ns.length t) ps vN2 vP) := Lib.hid hR3
        have HB3 := Lib.hid (HB2.out.trans (HR2.out.bs B3))
        clear hR3 B3 HR2 HB2
        have d2 := HR3.out.cells.2.2.1
        have g2 := HR3.out.ice 2
        have HZ := Lib.hid (HR3.out.setOp op (by have := HN.out; omega))
        have HZB := Lib.hid (HB3.out.trans (HR3.out.bs ((Bg.refl g w3).set 2 (.int .i64 (op : Int)))))
        go_wp2_with fail
        rw [HT.out]
        go_ret
        exact ⟨rfl, ⟨_, HZ.out⟩, HZB.out, by have := HS2.out; simp only [List.length_cons] at *; omega⟩
end
end Go.Proofs.YtebkaajnnjfhjaaDoor
namespace Go.Proofs.YtebkaajnnjfhjaaDoor
set_option linter.unusedVariables false
set_option linter.unusedSimpArgs false
open Go.RowKit Go.Proofs.YtebkaajnnjfhjaaDoorW.PrintWords
open Tr (Nd Pt T R sz rootI post)

namespace Tr
/-- The nodes of a row of parts, one behind another; the parts. -/
def ndsL : Nat → List (Bool × T) → List Nd
  | _, [] => []
  | n, x :: r => post n x.2 ++ ndsL (n + sz x.2) r
def ptsL : Nat → List (Bool × T) → List Pt
  | _, [] => []
  | n, x :: r => ⟨rootI n x.2, x.1⟩ :: ptsL (n + sz x.2) r
def szL : List (Bool × T) → Nat
  | [] => 0
  | x :: r => sz x.2 + szL r
theorem ndsL_len (l : List (Bool × T)) : ∀ n, (ndsL n l).length = szL l := by
  induction l with
  | nil => intro n; rfl
  | cons x l ih => intro n; simp [ndsL, szL, post_len, ih]
theorem ptsL_len (l : List (Bool × T)) : ∀ n, (ptsL n l).length = l.length := by
  induction l with
  | nil => intro n; rfl
  | cons x l ih => intro n; simp [ptsL, ih]
theorem ndsL_snoc (l : List (Bool × T)) (b : Bool) (t : T) : ∀ n, ndsL n (l ++ [(b, t)]) = ndsL n l ++ post (n + (ndsL n l).length) t := by
  induction l with
  | nil => intro n; simp [ndsL]
  | cons x l ih =>
    intro n
    simp only [List.cons_append, ndsL, ih, List.append_assoc, List.length_append, post_len]
    rw [show n + sz x.2 + (ndsL (n + sz x.2) l).length = n + (sz x.2 + (ndsL (n + sz x.2) l).length) by omega]
theorem ptsL_snoc (l : List (Bool × T)) (b : Bool) (t : T) : ∀ n, ptsL n (l ++ [(b, t)]) = ptsL n l ++ [⟨rootI (n + (ndsL n l).length) t, b⟩] := by
  induction l with
  | nil => intro n; simp [ptsL, ndsL]
  | cons x l ih =>
    intro n
    simp only [List.cons_append, ptsL, ih, ndsL, List.length_append, post_len]
    rw [show n + sz x.2 + (ndsL (n + sz x.2) l).length = n + (sz x.2 + (ndsL (n + sz x.2) l).length) by omega]
theorem szL_snoc (l : List (Bool × T)) (b : Bool) (t : T) : szL (l ++ [(b, t)]) = szL l + sz t := by
  induction l with
  | nil => simp [szL]
  | cons x l ih => simp only [List.cons_append, szL, ih]; omega
theorem bangs_stop {b : Bool} {l : B} {p : Nat} (h : nx 33 l = false) : bangs b l p = (b, l, p) := by
  rcases l with _ | ⟨c, l⟩
  · rfl
  · have hc : c ≠ 33 := by rintro rfl; exact absurd h (by unfold nx; simp)
    unfold bangs
    split
    · rename_i h'; injection h' with h1 _; exact absurd h1 hc
    · rfl
end Tr
open Tr (ndsL ptsL szL)
def OutP (w : World) (base g : Nat) (l : List UInt8) (res : R (List (Bool × T))) (e : Ending) (w' : World) : Prop :=
  match res with
  | .ok x r' p' => e = .returned (.tuple #[]) ∧ (∃ vN' vP', RS w' base g l r' p' 0 (ndsL 0 x) (ptsL 0 x) vN' vP') ∧ Below base w w' ∧ szL x + 2 * r'.length ≤ 2 * l.length + 1
  | .no q x => e = .panicked (flt q x) ∧ Below base w w'
section
variable {w0 w w1 : World} {base g : Nat} {l r : List UInt8} {p op : Nat} {ns : List Nd} {ps : List Pt} {vN vP : Value}
theorem OutP.fail {q : Nat} {x : Int} {w' : World} (hb : Below base w w') : OutP w base g l (.no q x) (.panicked (flt q x)) w' := ⟨rfl, hb⟩
/-- One part more. -/
theorem RS.part {v1 : Value} (q : Pt) (h : RS w base g l r p op ns ps vN vP) (ho : w1.ownsRow base 30 2 v1 (ps.length + 1) (ps.flatMap ptC ++ ptC q)) (hg : w.grownBy w1 vP.ownBlock) : RS (w1.setCell ⟨g, 4, none⟩ v1) base g l r p op ns (ps ++ [q]) vN v1 := by
  have hb := blk_grown h.blk hg (own_ne h.rP h.blk (by decide))
  have hr := own_other h.rN hg (own_type_ne h.rN h.rP (by decide))
  have happ : ps.flatMap ptC ++ ptC q = (ps ++ [q]).flatMap ptC := by rw [List.flatMap_append]; simp
  rw [happ] at ho
  refine ⟨blk_put hb 4 _ rfl, own_setCell hr (p := ⟨g, 4, none⟩) (own_ne hr hb (by decide)) _, ?_, h.bg, h.dr, h.pl, h.ll, h.op⟩
  have := own_setCell ho (p := ⟨g, 4, none⟩) (own_ne ho hb (by decide)) v1
  simpa using this
theorem RS.grown4 (h : RS w base g l r p op ns ps vN vP) (hg : w.grownBy w1 vP.ownBlock) : w1.cell? ⟨g, 0, none⟩ = some (.string ⟨l.toArray⟩) ∧ w1.cell? ⟨g, 1, none⟩ = some (.int .i64 p) ∧ w1.cell? ⟨g, 4, none⟩ = some vP ∧ w1.frozen? ⟨g, 4, none⟩ = false := by
  have hb := blk_grown h.blk hg (own_ne h.rP h.blk (by decide))
  exact ⟨(blk_cell hb 0).trans rfl, (blk_cell hb 1).trans rfl, (blk_cell hb 4).trans rfl, blk_frozen hb 4⟩
set_option maxRecDepth 100000 in
set_option maxHeartbeats 6400000 in
theorem constraint_any {f0 : Nat} (hf : l.length < f0) (h : RS w base g l l 0 0 [] [] vN vP) :
    Calls Tryd.prog 42 #[.pointer (some ⟨g, 0, none⟩)] w (OutP w base g l (Tr.cons f0 16 f0 [] l 0)) := by
  have H := Lib.hid h
  have HF := Lib.hid hf
  generalize ht : Tr.cons f0 16 f0 [] l 0 = res
  have HT := Lib.hid ht
  clear h ht hf
  go_enter Tryd.func42, Tryd.ntmps42
  go_wp2_with fail
  go_loopw [] (fun wr => ∃ (acc : List (Bool × T)) (r2 : List UInt8) (p2 f : Nat) (vN' vP' : Value), r2.length < f ∧ szL acc + 2 * r2.length ≤ 2 * l.length ∧ acc.length < 20 ∧ Hid (Tr.cons f0 16 f acc r2 p2 = res) ∧ Hid (RS wr base g l r2 p2 0 (ndsL 0 acc) (ptsL 0 acc) vN' vP') ∧ Hid (Below base w wr)) (fun wr => l.length - posOf wr g)
  case atStart => exact ⟨[], l, 0, f0, vN, vP, HF.out, by simp [szL], by simp, HT, H, Lib.hid (Below.refl _ _)⟩
  case round =>
    clear HT
    obtain ⟨acc, r2, p2, f, vN', vP', hf, hs, ha20, HC, HR, HB⟩ := hrel
    rcases f with _ | f
    · omega
    have HM := Lib.hid HR.out.pos
    have HZp := Lib.hid HR.out.pl
    go_wp2_with fail
    go_loopw [2] (fun v2 wi => ∃ (b : Bool) (r3 : List UInt8) (p3 : Nat), v2 = .bool b ∧ r3.length ≤ r2.length ∧ Hid (Tr.bangs false r2 p2 = Tr.bangs b r3 p3) ∧ Hid (RS wi base g l r3 p3 0 (ndsL 0 acc) (ptsL 0 acc) vN' vP') ∧ Hid (Below base w wi)) (fun _ wi => l.length - posOf wi g)
    case atStart => exact ⟨false, r2, p2, rfl, Nat.le_refl _, Lib.hid rfl, HR, HB⟩
    case round =>
      clear HR HB
      obtain ⟨b, r3, p3, rfl, hl3, HBG, HR, HB⟩ := hrel
      have HM3 := Lib.hid HR.out.pos
      have HZ3 := Lib.hid HR.out.pl
      have HI := is_any 33 HR.out
      cases h33 : Tr.nx 33 r3
      · rw [h33] at HI
        replace HBG := Lib.hid (HBG.out.trans (Tr.bangs_stop h33))
        clear h33
        go_wp2_with fail
        refine HI.mono ?_
        rintro e w2 ⟨rfl, hR2, B2⟩
        have HR2 : Hid (RS w2 base g l r3 p3 0 (ndsL 0 acc) (ptsL 0 acc) vN' vP') := Lib.hid hR2
        have HB2 := Lib.hid (HB.out.trans (HR.out.bs B2))
        clear hR2 B2 HR HB
        go_wp2_with fail
        refine (pattern_any (group_any f0 16) rfl HF.out (by rw [Tr.ndsL_len]; have := HR2.out.ll; omega) HR2.out).mono ?_
        rintro e w3 hO
        replace HC : Hid (((Tr.pat f0 (Tr.grp f0 16) r3 p3).bnd fun t l1 p1 => if l1 = [] then .ok (acc ++ [(b, t)]) l1 p1 else if Tr.nx 38 l1 then (if acc.length + 1 = 20 then .no p1 3 else Tr.cons f0 16 f (acc ++ [(b, t)]) (l1.drop 1) (p1 + 1)) else .no p1 8) = res) := Lib.hid (by rw [← HC.out, Tr.cons]; simp only [HBG.out])
        cases ha : Tr.pat f0 (Tr.grp f0 16) r3 p3 with
        | no q x =>
          rw [ha] at hO HC
          obtain ⟨rfl, B3⟩ := hO
          refine ⟨rfl, ?_⟩
          rw [← HC.out]
          exact OutP.fail (HB2.out.trans B3)
        | ok t l1 p1 =>
          rw [ha] at hO HC
          obtain ⟨rfl, ⟨vN3, hR3⟩, B3, hs3⟩ := hO
          have HR3 := Lib.hid hR3
          have HB3 := Lib.hid (HB2.out.trans B3)
          have HS3 := Lib.hid hs3
          clear hR3 B3 HR2 HB2 ha hs3
          replace HC : Hid ((if l1 = [] then .ok (acc ++ [(b, t)]) l1 p1 else if Tr.nx 38 l1 then (if acc.length + 1 = 20 then .no p1 3 else Tr.cons f0 16 f (acc ++ [(b, t)]) (l1.drop 1) (p1 + 1)) else .no p1 8) = res) := HC
          obtain ⟨k, hk⟩ : ∃ k : Int, k = rootI (ndsL 0 acc).length t := ⟨_, rfl⟩
          rw [← hk]
          have HK := Lib.hid hk
          clear hk
          obtain ⟨c0, c1, c2, c3, c4⟩ := HR3.out.cells
          go_wp2_with (at_builtin; refine print_append_cells (w0 := w) base rfl _ _ 31 30 (.agg #[.int .i64 0, .bool false]) 2 16 rfl Tryd.underlying31 (by kernel_rfl) (by rfl) (by decide) (by decide) vP' (ptsL 0 acc).length ((ptsL 0 acc).flatMap ptC) (ptC ⟨k, b⟩) (by simp [Act.eval, Act.put]) (by simp [Act.eval, Act.put]) (by rfl) (by simp [ptC, Value.oneCell']) HR3.out.rP HB3.out HR3.out.lt (by rw [Tr.ptsL_len]; omega) ?_; intro v1 w4 HO HBB hg hat; obtain ⟨A1, cap1, rfl⟩ := own_slice HO; have HR5 := Lib.hid (HR3.out.part ⟨k, b⟩ HO hg); have HB5 := Lib.hid (HBB.setCell (p := ⟨g, 4, none⟩) HR3.out.bg (.slice A1 ((ptsL 0 acc).length + 1) cap1)); obtain ⟨d0, d1, d4, e4⟩ := HR3.out.grown4 hg; clear HO HBB hg hat c0 c1 c2 c3 c4)
          have HEN := Lib.hid (show ndsL 0 acc ++ post (ndsL 0 acc).length t = ndsL 0 (acc ++ [(b, t)]) by rw [Tr.ndsL_snoc, Nat.zero_add])
          have HEP := Lib.hid (show ptsL 0 acc ++ [⟨k, b⟩] = ptsL 0 (acc ++ [(b, t)]) by rw [Tr.ptsL_snoc, Nat.zero_add, HK.out])
          rw [HEN.out, HEP.out] at HR5
          have HPL := Lib.hid HR5.out.pl
          by_cases hl1 : l1 = []
          · have eq1 : ((p1 : Int) == l.length) = true := by
              have := HPL.out
              rw [hl1] at this
              simp at this
              simp; omega
            replace HC : Hid (.ok (acc ++ [(b, t)]) l1 p1 = res) := Lib.hid (by rw [← HC.out, if_pos hl1])
            clear hl1
            go_quiet (fail)
            go_wp2_with fail
            rw [← HC.out]
            exact bodyPost_ret (results_none rfl _ _ _) rfl ⟨rfl, ⟨_, _, HR5.out.below (by (repeat (first | (with_reducible exact Below.refl _ _) | (with_reducible refine Below.drew ?_) | (with_reducible refine rx_drewN ?_ _) | ((with_reducible apply bthen); rotate_left; assumption))))⟩, HB5.out.trans ((show Below (w4.setCell ⟨g, 4, none⟩ (.slice A1 ((ptsL 0 acc).length + 1) cap1)).heap.size _ _ by (repeat (first | (with_reducible exact Below.refl _ _) | (with_reducible refine Below.drew ?_) | (with_reducible refine rx_drewN ?_ _) | ((with_reducible apply bthen); rotate_left; assumption)))).mono HR5.out.lt), by rw [Tr.szL_snoc]; have := HS3.out; omega⟩
          · have eq1 : ((p1 : Int) == l.length) = false := by
              have := HPL.out
              have : 0 < l1.length := List.length_pos_iff.2 hl1
              simp; omega
            have HNE := Lib.hid (List.length_pos_iff.2 hl1)
            replace HC : Hid ((if Tr.nx 38 l1 then (if acc.length + 1 = 20 then .no p1 3 else Tr.cons f0 16 f (acc ++ [(b, t)]) (l1.drop 1) (p1 + 1)) else .no p1 8) = res) := Lib.hid (by rw [← HC.out, if_neg hl1])
            clear hl1
            go_quiet (fail)
            go_wp2_with fail
            have HR6 := Lib.hid (HR5.out.below (w' := (w4.setCell ⟨g, 4, none⟩ (.slice A1 ((ptsL 0 acc).length + 1) cap1)).drewN nq) (by (repeat (first | (with_reducible exact Below.refl _ _) | (with_reducible refine Below.drew ?_) | (with_reducible refine rx_drewN ?_ _) | ((with_reducible apply bthen); rotate_left; assumption)))))
            have HB6 := Lib.hid (HB5.out.trans ((show Below (w4.setCell ⟨g, 4, none⟩ (.slice A1 ((ptsL 0 acc).length + 1) cap1)).heap.size _ ((w4.setCell ⟨g, 4, none⟩ (.slice A1 ((ptsL 0 acc).length + 1) cap1)).drewN nq) by (repeat (first | (with_reducible exact Below.refl _ _) | (with_reducible refine Below.drew ?_) | (with_reducible refine rx_drewN ?_ _) | ((with_reducible apply bthen); rotate_left; assumption)))).mono HR5.out.lt))
            clear HR5 HB5 d0 d1 d4 e4
            generalize (w4.setCell ⟨g, 4, none⟩ (.slice A1 ((ptsL 0 acc).length + 1) cap1)).drewN nq = w6 at *
            have HI := is_any 38 HR6.out
            cases h38 : Tr.nx 38 l1
            · rw [h38] at HI HC
              replace HC : Hid (.no p1 8 = res) := HC
              clear h38
              refine HI.mono ?_
              rintro e w7 ⟨rfl, hR7, B7⟩
              have HB7 := Lib.hid (HB6.out.trans (HR6.out.bs B7))
              clear B7 HI
              go_wp2_with fail
              refine (fails_any p1 8).mono ?_
              rintro e w8 ⟨rfl, B8⟩
              refine ⟨rfl, ?_⟩
              rw [← HC.out]
              exact OutP.fail (HB7.out.trans (B8.mono hR7.lt))
            · obtain ⟨l2, rfl⟩ := Tr.nx_cons h38
              rw [h38] at HI HC
              replace HC : Hid ((if acc.length + 1 = 20 then .no p1 3 else Tr.cons f0 16 f (acc ++ [(b, t)]) l2 (p1 + 1)) = res) := HC
              clear h38
              refine HI.mono ?_
              rintro e w7 ⟨rfl, hR7, B7⟩
              have HR7 : Hid (RS w7 base g l l2 (p1 + 1) 0 (ndsL 0 (acc ++ [(b, t)])) (ptsL 0 (acc ++ [(b, t)])) vN3 (.slice A1 ((ptsL 0 acc).length + 1) cap1)) := Lib.hid hR7
              have HB7 := Lib.hid (HB6.out.trans (HR6.out.bs B7))
              clear B7 HI hR7 HR6 HB6
              have d4 := HR7.out.cells.2.2.2.2
              by_cases h20 : acc.length + 1 = 20
              · have e20 : ((((ptsL 0 acc).length : Int) + 1) == 20) = true := by rw [Tr.ptsL_len]; simp; omega
                replace HC : Hid (.no p1 3 = res) := Lib.hid (by rw [← HC.out, if_pos h20])
                clear h20
                go_wp2_with fail
                refine (fails_any p1 3).mono ?_
                rintro e w8 ⟨rfl, B8⟩
                refine ⟨rfl, ?_⟩
                rw [← HC.out]
                exact OutP.fail (HB7.out.trans (B8.mono HR7.out.lt))
              · have e20 : ((((ptsL 0 acc).length : Int) + 1) == 20) = false := by rw [Tr.ptsL_len]; simp; omega
                replace HC : Hid (Tr.cons f0 16 f (acc ++ [(b, t)]) l2 (p1 + 1) = res) := Lib.hid (by rw [← HC.out, if_neg h20])
                have HL20 : Hid (acc.length + 1 < 20) := Lib.hid (by omega)
                clear h20
                go_wp2_with fail
                go_roundw
                case rel => exact ⟨acc ++ [(b, t)], l2, p1 + 1, f, _, _, by simp only [List.length_cons] at *; have := HS3.out; have := Tr.sz_pos t; omega, by rw [Tr.szL_snoc]; have := HS3.out; simp only [List.length_cons] at *; omega, by have := HL20.out; simp; omega, HC, HR7, HB7⟩
                case measure => rw [HR7.out.pos, HM.out]; have e1 := HR7.out.pl; have := HZp.out; have := HS3.out; have := Tr.sz_pos t; simp only [List.length_cons] at *; omega
      · obtain ⟨r4, rfl⟩ := Tr.nx_cons h33
        rw [h33] at HI
        clear h33
        go_wp2_with fail
        refine HI.mono ?_
        rintro e w2 ⟨rfl, hR2, B2⟩
        have HR2 : Hid (RS w2 base g l r4 (p3 + 1) 0 (ndsL 0 acc) (ptsL 0 acc) vN' vP') := Lib.hid hR2
        have HB2 := Lib.hid (HB.out.trans (HR.out.bs B2))
        clear hR2 B2 HR HB
        go_wp2_with fail
        go_roundw
        case rel => exact ⟨!b, r4, p3 + 1, rfl, by simp only [List.length_cons] at *; omega, Lib.hid HBG.out, HR2, HB2⟩
        case measure => rw [HR2.out.pos, HM3.out]; have e1 := HR2.out.pl; have := HZ3.out; simp only [List.length_cons] at *; omega
end
end Go.Proofs.YtebkaajnnjfhjaaDoor
