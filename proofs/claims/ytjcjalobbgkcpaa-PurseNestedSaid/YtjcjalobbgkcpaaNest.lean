/-
  PurseNested: a purse's Run does not take another one's panic for its own.
-/
import Derived.Test.YtjcjalobbgkcpaaLeft
import Derived.Outline
namespace Go.Proofs.Ytjcjalobbgkcpaa
open Go.RowKit Go.Proofs.YtjcjalobbgkcpaaW.PrintWords

/-- Spend in a fresh purse. -/
theorem spend_ok (g b : Nat) (n : Int) (hn : -9223372036854775808 ≤ n ∧ n ≤ 9223372036854775807) (h : more 0 n ≤ Fl.aff b) (w : World) (K : PB w g b 0) : Calls Try.prog 20 #[.pointer (some ⟨g, 0, none⟩), .int .i64 n] w fun e w' =>
    e = .returned (.tuple #[]) ∧ Only (fun k => k = g) w w' ∧ PB w' g b (more 0 n) := by
  have := spend_any g b 0 (by omega) n hn w K
  rw [if_pos (Or.inr h)] at this
  exact this
theorem more_lt {n : Int} (h : n < 1) : more 0 n = 0 := by unfold more; rw [if_pos h]
theorem spend_no (g b : Nat) (n : Int) (hn : -9223372036854775808 ≤ n ∧ n ≤ 9223372036854775807) (h : ¬ more 0 n ≤ Fl.aff b) (w : World) (K : PB w g b 0) : Calls Try.prog 20 #[.pointer (some ⟨g, 0, none⟩), .int .i64 n] w fun e w' =>
    e = .panicked [{ v := pan g, recovered := false }] ∧ Only (fun k => k = g) w w' ∧ PB w' g b (more 0 n) := by
  have := spend_any g b 0 (by omega) n hn w K
  rw [if_neg (by rintro (g1 | g1)
                 · rw [more_lt g1] at h; omega
                 · exact h g1)] at this
  exact this

/-- What the closures have captured. -/
structure NW (w : World) (gp gq qc nc pc mc : Nat) (m n : Int) : Prop where
  qp : w.heap[qc]? = some (.cells #[.pointer (some ⟨gq, 0, none⟩)] 22 (0, 0))
  np : w.heap[nc]? = some (.cells #[.int .i64 n] 3 (0, 0))
  pp : w.heap[pc]? = some (.cells #[.pointer (some ⟨gp, 0, none⟩)] 22 (0, 0))
  mp : w.heap[mc]? = some (.cells #[.int .i64 m] 3 (0, 0))
  d1 : gp ≠ gq
  d2 : qc ≠ gp ∧ qc ≠ gq ∧ nc ≠ gp ∧ nc ≠ gq ∧ pc ≠ gp ∧ pc ≠ gq ∧ mc ≠ gp ∧ mc ≠ gq
theorem NW.only {S : Nat → Prop} {w w' : World} {gp gq qc nc pc mc : Nat} {m n : Int} (h : NW w gp gq qc nc pc mc m n) (hO : Only S w w') (hS : ∀ k, k < w.heap.size → S k → k = gp ∨ k = gq) : NW w' gp gq qc nc pc mc m n := by
  obtain ⟨h1, h2, h3, h4, h5, h6⟩ := h
  refine ⟨hO.blk h1 ?_, hO.blk h2 ?_, hO.blk h3 ?_, hO.blk h4 ?_, h5, h6⟩
  · intro g; have := hS _ (blk_lt h1) g; omega
  · intro g; have := hS _ (blk_lt h2) g; omega
  · intro g; have := hS _ (blk_lt h3) g; omega
  · intro g; have := hS _ (blk_lt h4) g; omega
def SS (gp gq : Nat) (k : Nat) : Prop := k = gp ∨ k = gq
theorem ss_l {gp gq : Nat} {w w' : World} (h : Only (fun k => k = gp) w w') : Only (SS gp gq) w w' := h.mono (fun _ _ e => Or.inl e)
theorem ss_r {gp gq : Nat} {w w' : World} (h : Only (fun k => k = gq) w w') : Only (SS gp gq) w w' := h.mono (fun _ _ e => Or.inr e)

/-- What the innermost closure comes to. -/
def inEnd (gp gq a b : Nat) (m n : Int) : Ending := if ¬ more 0 n ≤ Fl.aff b then .panicked [{ v := pan gq, recovered := false }] else if ¬ more 0 m ≤ Fl.aff a then .panicked [{ v := pan gp, recovered := false }] else .returned (.tuple #[])
def inP (b : Nat) (m n : Int) : Nat := if ¬ more 0 n ≤ Fl.aff b then 0 else more 0 m
set_option maxHeartbeats 800000 in
theorem in_any (gp gq qc nc pc mc a b : Nat) (m n : Int) (hm : -9223372036854775808 ≤ m ∧ m ≤ 9223372036854775807) (hn : -9223372036854775808 ≤ n ∧ n ≤ 9223372036854775807) (w : World) (K : NW w gp gq qc nc pc mc m n) (P : PB w gp a 0) (Q : PB w gq b 0) :
    Calls Try.prog 31 #[.pointer (some ⟨qc, 0, none⟩), .pointer (some ⟨nc, 0, none⟩), .pointer (some ⟨pc, 0, none⟩), .pointer (some ⟨mc, 0, none⟩)] w fun e w' =>
      e = inEnd gp gq a b m n ∧ Only (SS gp gq) w w' ∧ PB w' gp a (inP b m n) ∧ PB w' gq b (more 0 n) := by
  have c1 := blk_cell K.qp 0
  have c2 := blk_cell K.np 0
  simp at c1 c2
  have KK := Lib.hid K
  have PP := Lib.hid P
  have QQ := Lib.hid Q
  clear K P Q
  by_cases h1 : more 0 n ≤ Fl.aff b
  · have e1 : inP b m n = more 0 m := by unfold inP; rw [if_neg (by omega)]
    rw [e1]
    by_cases h2 : more 0 m ≤ Fl.aff a
    · have e2 : inEnd gp gq a b m n = .returned (.tuple #[]) := by unfold inEnd; rw [if_neg (by omega), if_neg (by omega)]
      rw [e2]
      have H1 := Lib.hid h1
      have H2 := Lib.hid h2
      clear e1 e2 h1 h2
      go_enter Try.func31, Try.ntmps31
      go_wp2_with fail
      refine (spend_ok gq b n hn H1.out _ QQ.out).mono ?_
      rintro e w1 ⟨rfl, hO, hK⟩
      have K1 := KK.out.only hO (fun k _ e => Or.inr e)
      have P1 : PB w1 gp a 0 := hO.blk PP.out K1.d1
      have c1 := blk_cell K1.pp 0
      have c2 := blk_cell K1.mp 0
      simp at c1 c2
      have HK := Lib.hid hK
      have HP := Lib.hid P1
      have HO := ss_r (gp := gp) hO
      have D1 := Lib.hid K1.d1
      clear hO hK K1 P1
      go_wp2_with fail
      refine (spend_ok gp a m hm H2.out _ HP.out).mono ?_
      rintro e w2 ⟨rfl, hO, hK⟩
      have Q2 : PB w2 gq b (more 0 n) := hO.blk HK.out (fun e => D1.out e.symm)
      have HO2 := HO.trans (ss_l (gq := gq) hO)
      have HK2 := Lib.hid hK
      have HQ2 := Lib.hid Q2
      clear hO hK Q2
      go_wp2_with fail
      first | (go_end0; exact ⟨rfl, HO2, HK2.out, HQ2.out⟩) | exact bodyPost_ret (results_none rfl _ _ _) rfl ⟨rfl, HO2, HK2.out, HQ2.out⟩
    · have e2 : inEnd gp gq a b m n = .panicked [{ v := pan gp, recovered := false }] := by unfold inEnd; rw [if_neg (by omega), if_pos (by omega)]
      rw [e2]
      have H1 := Lib.hid h1
      have H2 := Lib.hid h2
      clear e1 e2 h1 h2
      go_enter Try.func31, Try.ntmps31
      go_wp2_with fail
      refine (spend_ok gq b n hn H1.out _ QQ.out).mono ?_
      rintro e w1 ⟨rfl, hO, hK⟩
      have K1 := KK.out.only hO (fun k _ e => Or.inr e)
      have P1 : PB w1 gp a 0 := hO.blk PP.out K1.d1
      have c1 := blk_cell K1.pp 0
      have c2 := blk_cell K1.mp 0
      simp at c1 c2
      have HK := Lib.hid hK
      have HP := Lib.hid P1
      have HO := ss_r (gp := gp) hO
      have D1 := Lib.hid K1.d1
      clear hO hK K1 P1
      go_wp2_with fail
      refine (spend_no gp a m hm H2.out _ HP.out).mono ?_
      rintro e w2 ⟨rfl, hO, hK⟩
      have Q2 : PB w2 gq b (more 0 n) := hO.blk HK.out (fun e => D1.out e.symm)
      have HO2 := HO.trans (ss_l (gq := gq) hO)
      have HK2 := Lib.hid hK
      have HQ2 := Lib.hid Q2
      clear hO hK Q2
      go_wp2_with fail
      exact ⟨rfl, rfl, HO2, HK2.out, HQ2.out⟩
  · have e1 : inP b m n = 0 := by unfold inP; rw [if_pos h1]
    have e2 : inEnd gp gq a b m n = .panicked [{ v := pan gq, recovered := false }] := by unfold inEnd; rw [if_pos h1]
    rw [e1, e2]
    have H1 := Lib.hid h1
    clear e1 e2 h1
    go_enter Try.func31, Try.ntmps31
    go_wp2_with fail
    refine (spend_no gq b n hn H1.out _ QQ.out).mono ?_
    rintro e w1 ⟨rfl, hO, hK⟩
    have P1 : PB w1 gp a 0 := hO.blk PP.out KK.out.d1
    have HO := ss_r (gp := gp) hO
    have HK := Lib.hid hK
    have HP := Lib.hid P1
    clear hO hK P1
    go_wp2_with fail
    exact ⟨rfl, rfl, HO, HP.out, HK.out⟩
theorem in_enter (p q r s : Value) (w : World) : (callFunc 31 #[p, q, r, s]).run Try.prog w = .ok (.enter 31 #[p, q, r, s]) w := by
  simp [go_sem]
/-- What the outer closure comes to, and what it lays into 'inner'. -/
def midEnd (gp a b : Nat) (m n : Int) : Ending := if more 0 n ≤ Fl.aff b ∧ ¬ more 0 m ≤ Fl.aff a then .panicked [{ v := pan gp, recovered := false }, { v := pan gp, recovered := true }] else .returned (.tuple #[])
def midI (a b : Nat) (m n : Int) : Int := if ¬ more 0 n ≤ Fl.aff b then 2 else if ¬ more 0 m ≤ Fl.aff a then 0 else 1
def SI (gp gq ic : Nat) (k : Nat) : Prop := SS gp gq k ∨ k = ic
theorem si_of {gp gq ic : Nat} {w w' : World} (h : Only (SS gp gq) w w') : Only (SI gp gq ic) w w' := h.mono (fun _ _ e => Or.inl e)
set_option maxHeartbeats 1600000 in
theorem mid_any (gp gq qc nc pc mc ic a b : Nat) (m n : Int) (hm : -9223372036854775808 ≤ m ∧ m ≤ 9223372036854775807) (hn : -9223372036854775808 ≤ n ∧ n ≤ 9223372036854775807) (w : World) (K : NW w gp gq qc nc pc mc m n) (P : PB w gp a 0) (Q : PB w gq b 0)
    (I : w.heap[ic]? = some (.cells #[.int .i64 0] 3 (0, 0))) (hi : ic ≠ gp ∧ ic ≠ gq) :
    Calls Try.prog 30 #[.pointer (some ⟨qc, 0, none⟩), .pointer (some ⟨nc, 0, none⟩), .pointer (some ⟨pc, 0, none⟩), .pointer (some ⟨mc, 0, none⟩), .pointer (some ⟨ic, 0, none⟩)] w fun e w' =>
      e = midEnd gp a b m n ∧ Only (SI gp gq ic) w w' ∧ PB w' gp a (inP b m n) ∧ PB w' gq b (more 0 n) ∧ w'.heap[ic]? = some (.cells #[.int .i64 (midI a b m n)] 3 (0, 0)) := by
  have hmf : ∀ (fn : Fn) (first cap : Array Value) (w : World), (Instr.makeFunc fn first cap).run Try.prog w = .ok (.func fn first cap) w := fun _ _ _ _ => rfl
  have c1 := blk_cell K.qp 0
  simp at c1
  have hgp := blk_lt P
  have hgq := blk_lt Q
  have hic := blk_lt I
  have hne := K.d1
  have HS : Hid (∀ k, SS gp gq k → k < w.heap.size) := Lib.hid (by rintro k (rfl | rfl) <;> assumption)
  have KK := Lib.hid K
  have PP := Lib.hid P
  have QQ := Lib.hid Q
  have II := Lib.hid I
  clear K P Q I
  have HIN : ∀ k, Hid (Calls Try.prog 31 #[.pointer (some ⟨qc, 0, none⟩), .pointer (some ⟨nc, 0, none⟩), .pointer (some ⟨pc, 0, none⟩), .pointer (some ⟨mc, 0, none⟩)] ((RW w gq).drewN k) fun e w' =>
      e = inEnd gp gq a b m n ∧ Only (SS gp gq) ((RW w gq).drewN k) w' ∧ PB w' gp a (inP b m n) ∧ PB w' gq b (more 0 n)) := fun k =>
    Lib.hid (in_any gp gq qc nc pc mc a b m n hm hn _ (KK.out.only (rw_only (fun _ => False) w gq k) (fun _ _ h => h.elim)) ((rw_only (fun _ => False) w gq k).blk PP.out id) ((rw_only (fun _ => False) w gq k).blk QQ.out id))
  have HH := Lib.hid HIN
  clear HIN
  by_cases h1 : more 0 n ≤ Fl.aff b
  · by_cases h2 : more 0 m ≤ Fl.aff a
    · have e1 : midEnd gp a b m n = .returned (.tuple #[]) := by unfold midEnd; rw [if_neg (by omega)]
      have e2 : midI a b m n = 1 := by unfold midI; rw [if_neg (by omega), if_neg (by omega)]
      have E3 := Lib.hid (show inEnd gp gq a b m n = .returned (.tuple #[]) by unfold inEnd; rw [if_neg (by omega), if_neg (by omega)])
      rw [e1, e2]
      clear e1 e2 h1 h2
      go_enter Try.func30, Try.ntmps30
      go_wp2_with fail
      refine (run_ret gq b 0 _ QQ.out (by omega) _ _ (in_enter _ _ _ _) (SS gp gq) HS.out (fun w2 => PB w2 gp a (inP b m n) ∧ PB w2 gq b (more 0 n)) (fun k => ?_)).mono ?_
      · exact (HH.out k).out.mono (fun _ _ h => ⟨h.1.trans E3.out, h.2.1, h.2.2⟩)
      · rintro e w1 ⟨rfl, hO, w2, ⟨hP, hQ⟩, hF⟩
        have HP := Lib.hid ((hF gp hgp).trans hP)
        have HQ := Lib.hid ((hF gq hgq).trans hQ)
        have I1 := hO.blk II.out (fun h => by rcases h with h | h <;> omega)
        have HO := si_of (ic := ic) hO
        have HI := Lib.hid I1
        have c3 := blk_frozen I1 0
        have c4 := blk_cell I1 0
        simp at c4
        clear hO hP hQ hF I1
        go_wp2_with fail
        go_end0
        refine ⟨rfl, HO.setCell (Or.inl (Or.inr rfl)) _, ?_, ?_, ?_⟩
        · exact (Below.heap_setCell _ _ _ _ (fun h => hi.1 h.symm)).trans HP.out
        · exact (Below.heap_setCell _ _ _ _ (fun h => hi.2 h.symm)).trans HQ.out
        · rw [blk_set HI.out]; rfl
    · have e1 : midEnd gp a b m n = .panicked [{ v := pan gp, recovered := false }, { v := pan gp, recovered := true }] := by unfold midEnd; rw [if_pos ⟨h1, h2⟩]
      have e2 : midI a b m n = 0 := by unfold midI; rw [if_neg (by omega), if_pos (by omega)]
      have E3 := Lib.hid (show inEnd gp gq a b m n = .panicked [{ v := pan gp, recovered := false }] by unfold inEnd; rw [if_neg (by omega), if_pos (by omega)])
      rw [e1, e2]
      clear e1 e2 h1 h2
      go_enter Try.func30, Try.ntmps30
      go_wp2_with fail
      refine (run_oth gq b 0 _ QQ.out (by omega) _ _ (in_enter _ _ _ _) (SS gp gq) HS.out (fun w2 => PB w2 gp a (inP b m n) ∧ PB w2 gq b (more 0 n)) gp hne (fun _ h => ⟨⟨_, _, h.2⟩, _, _, h.1⟩) [] (fun k => ?_)).mono ?_
      · exact (HH.out k).out.mono (fun _ _ h => ⟨h.1.trans E3.out, h.2.1, h.2.2⟩)
      · rintro e w1 ⟨rfl, hO, w2, ⟨hP, hQ⟩, hF⟩
        have HP := Lib.hid ((hF gp hgp).trans hP)
        have HQ := Lib.hid ((hF gq hgq).trans hQ)
        have HI := Lib.hid (hO.blk II.out (fun h => by rcases h with h | h <;> omega))
        have HO := si_of (ic := ic) hO
        clear hO hP hQ hF
        go_wp2_with fail
        exact ⟨rfl, rfl, HO, HP.out, HQ.out, HI.out⟩
  · have e1 : midEnd gp a b m n = .returned (.tuple #[]) := by unfold midEnd; rw [if_neg (by omega)]
    have e2 : midI a b m n = 2 := by unfold midI; rw [if_pos (by omega)]
    have E3 := Lib.hid (show inEnd gp gq a b m n = .panicked [{ v := pan gq, recovered := false }] by unfold inEnd; rw [if_pos (by omega)])
    rw [e1, e2]
    clear e1 e2 h1
    go_enter Try.func30, Try.ntmps30
    go_wp2_with fail
    refine (run_own gq b 0 _ QQ.out (by omega) _ _ (in_enter _ _ _ _) (SS gp gq) HS.out (fun w2 => PB w2 gp a (inP b m n) ∧ PB w2 gq b (more 0 n)) [] rfl (fun k => ?_)).mono ?_
    · exact (HH.out k).out.mono (fun _ _ h => ⟨h.1.trans E3.out, h.2.1, h.2.2⟩)
    · rintro e w1 ⟨rfl, hO, w2, ⟨hP, hQ⟩, hF⟩
      have HP := Lib.hid ((hF gp hgp).trans hP)
      have HQ := Lib.hid ((hF gq hgq).trans hQ)
      have I1 := hO.blk II.out (fun h => by rcases h with h | h <;> omega)
      have HO := si_of (ic := ic) hO
      have HI := Lib.hid I1
      have c3 := blk_frozen I1 0
      have c4 := blk_cell I1 0
      simp at c4
      clear hO hP hQ hF I1
      go_wp2_with fail
      go_end0
      refine ⟨rfl, HO.setCell (Or.inl (Or.inr rfl)) _, ?_, ?_, ?_⟩
      · exact (Below.heap_setCell _ _ _ _ (fun h => hi.1 h.symm)).trans HP.out
      · exact (Below.heap_setCell _ _ _ _ (fun h => hi.2 h.symm)).trans HQ.out
      · rw [blk_set HI.out]; rfl
theorem mid_enter (p q r s t : Value) (w : World) : (callFunc 30 #[p, q, r, s, t]).run Try.prog w = .ok (.enter 30 #[p, q, r, s, t]) w := by
  simp [go_sem]
end Go.Proofs.Ytjcjalobbgkcpaa
