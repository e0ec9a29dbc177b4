/-
  PurseNested: a purse's Run does not take another one's panic for its own: it goes on to that one's Run: the call returns true.
-/
import Derived.Test.YtjcjalobbgkcpaaNest
namespace Go.Proofs.Ytjcjalobbgkcpaa
open Go.RowKit Go.Proofs.YtjcjalobbgkcpaaW.PrintWords

theorem blk_new' (X : World) (o : Obj) (k : Nat) (h : X.heap.size = k) {l : Array Value} {t : TypeId} (ho : o = .cells l t) : (X.alloc o).heap[k]? = some (.cells l t (0, 0)) := by
  subst h; subst ho; exact blk_new X _
/-- The memory of the law: what the closures have captured, the purses, and 'inner'. -/
structure ST (w : World) (B a b : Nat) (m n : Int) (sp sq : Nat) (i : Int) : Prop where
  mb : w.heap[B]? = some (.cells #[.int .i64 m] 3 (0, 0))
  nb : w.heap[B + 1]? = some (.cells #[.int .i64 n] 3 (0, 0))
  pp : PB w (B + 1 + 1) a sp
  pc : w.heap[B + 1 + 1 + 1]? = some (.cells #[.pointer (some ⟨B + 1 + 1, 0, none⟩)] 22 (0, 0))
  qq : PB w (B + 1 + 1 + 1 + 1) b sq
  qc : w.heap[B + 1 + 1 + 1 + 1 + 1]? = some (.cells #[.pointer (some ⟨B + 1 + 1 + 1 + 1, 0, none⟩)] 22 (0, 0))
  ic : w.heap[B + 1 + 1 + 1 + 1 + 1 + 1]? = some (.cells #[.int .i64 i] 3 (0, 0))
theorem ST.only {S : Nat → Prop} {w w' : World} {B a b : Nat} {m n : Int} {sp sq : Nat} {i : Int} (h : ST w B a b m n sp sq i) (hO : Only S w w') (hS : ∀ k, S k → B + 7 ≤ k) : ST w' B a b m n sp sq i := by
  obtain ⟨h1, h2, h3, h4, h5, h6, h7⟩ := h
  refine ⟨hO.blk h1 ?_, hO.blk h2 ?_, hO.blk h3 ?_, hO.blk h4 ?_, hO.blk h5 ?_, hO.blk h6 ?_, hO.blk h7 ?_⟩ <;> (intro g; have := hS _ g; omega)
abbrev W0 (w : World) (a b : Nat) (m n : Int) : World := ((((((w.alloc (.cells #[.int .i64 m] 3)).alloc (.cells #[.int .i64 n] 3)).alloc (.cells #[.float .f64 a, .int .u64 0] 49)).alloc (.cells #[.pointer (some ⟨w.heap.size + 1 + 1, 0, none⟩)] 22)).alloc (.cells #[.float .f64 b, .int .u64 0] 49)).alloc (.cells #[.pointer (some ⟨w.heap.size + 1 + 1 + 1 + 1, 0, none⟩)] 22)).alloc (.cells #[.int .i64 0] 3)
theorem st_zero (w : World) (a b : Nat) (m n : Int) : ST (W0 w a b m n) w.heap.size a b m n 0 0 0 := by
  refine ⟨?_, ?_, ?_, ?_, ?_, ?_, ?_⟩
  · exact blk_alloc (blk_alloc (blk_alloc (blk_alloc (blk_alloc (blk_alloc (blk_new' _ _ _ rfl rfl) _) _) _) _) _) _
  · exact blk_alloc (blk_alloc (blk_alloc (blk_alloc (blk_alloc (blk_new' _ _ _ (by simp) rfl) _) _) _) _) _
  · exact blk_alloc (blk_alloc (blk_alloc (blk_alloc (blk_new' _ _ _ (by simp) rfl) _) _) _) _
  · exact blk_alloc (blk_alloc (blk_alloc (blk_new' _ _ _ (by simp) rfl) _) _) _
  · exact blk_alloc (blk_alloc (blk_new' _ _ _ (by simp) rfl) _) _
  · exact blk_alloc (blk_new' _ _ _ (by simp) rfl) _
  · exact blk_new' _ _ _ (by simp) rfl
theorem st_below (w : World) (a b : Nat) (m n : Int) : Only (fun k => w.heap.size ≤ k) w (W0 w a b m n) := (((((((Only.refl _ _).alloc _).alloc _).alloc _).alloc _).alloc _).alloc _).alloc _
/-- The outer Run. -/
theorem nrun (B a b : Nat) (m n : Int) (hm : -9223372036854775808 ≤ m ∧ m ≤ 9223372036854775807) (hn : -9223372036854775808 ≤ n ∧ n ≤ 9223372036854775807) (r : Bool) (hr : decide (more 0 n ≤ Fl.aff b ∧ ¬ more 0 m ≤ Fl.aff a) = !r) (w : World) (h : ST w B a b m n 0 0 0) :
    Calls Try.prog 12 #[.pointer (some ⟨B + 2, 0, none⟩), .func (Fn.func 30) #[] #[.pointer (some ⟨B + 5, 0, none⟩), .pointer (some ⟨B + 1, 0, none⟩), .pointer (some ⟨B + 3, 0, none⟩), .pointer (some ⟨B, 0, none⟩), .pointer (some ⟨B + 6, 0, none⟩)]] w fun e w' =>
      e = .returned (.bool r) ∧ ST w' B a b m n (inP b m n) (more 0 n) (midI a b m n) ∧ Only (fun k => B ≤ k) w w' := by
  obtain ⟨h1, h2, h3, h4, h5, h6, h7⟩ := h
  have l1 := blk_lt h1
  have l2 := blk_lt h2
  have l3 := blk_lt h3
  have l4 := blk_lt h4
  have l5 := blk_lt h5
  have l6 := blk_lt h6
  have l7 := blk_lt h7
  have hS : ∀ k, SI (B + 2) (B + 4) (B + 6) k → k < w.heap.size := by rintro k ((rfl | rfl) | rfl) <;> assumption
  have hN : NW w (B + 2) (B + 4) (B + 5) (B + 1) (B + 3) B m n := ⟨h6, h2, h4, h1, by omega, by omega⟩
  have hmid := fun k => mid_any (B + 2) (B + 4) (B + 5) (B + 1) (B + 3) B (B + 6) a b m n hm hn ((RW w (B + 2)).drewN k) (hN.only (rw_only (fun _ => False) w _ k) (fun _ _ h => h.elim)) ((rw_only (fun _ => False) w _ k).blk h3 id) ((rw_only (fun _ => False) w _ k).blk h5 id) ((rw_only (fun _ => False) w _ k).blk h7 id) (by omega)
  have hfin : ∀ w', Only (SI (B + 2) (B + 4) (B + 6)) w w' → (∃ w2, (PB w2 (B + 2) a (inP b m n) ∧ PB w2 (B + 4) b (more 0 n) ∧ w2.heap[B + 6]? = some (.cells #[.int .i64 (midI a b m n)] 3 (0, 0))) ∧ ∀ k, k < w.heap.size → w'.heap[k]? = w2.heap[k]?) → ST w' B a b m n (inP b m n) (more 0 n) (midI a b m n) ∧ Only (fun k => B ≤ k) w w' := by
    rintro w' hO ⟨w2, ⟨p1, p2, p3⟩, hF⟩
    refine ⟨⟨hO.blk h1 ?_, hO.blk h2 ?_, (hF _ l3).trans p1, hO.blk h4 ?_, (hF _ l5).trans p2, hO.blk h6 ?_, (hF _ l7).trans p3⟩, hO.mono ?_⟩
    · rintro ((g | g) | g) <;> omega
    · rintro ((g | g) | g) <;> omega
    · rintro ((g | g) | g) <;> omega
    · rintro ((g | g) | g) <;> omega
    · rintro k _ ((rfl | rfl) | rfl) <;> omega
  cases r
  · have hc : more 0 n ≤ Fl.aff b ∧ ¬ more 0 m ≤ Fl.aff a := by simpa using hr
    have e1 : midEnd (B + 2) a b m n = .panicked [{ v := pan (B + 2), recovered := false }, { v := pan (B + 2), recovered := true }] := by unfold midEnd; rw [if_pos hc]
    refine (run_own (B + 2) a 0 w h3 (by omega) _ _ (mid_enter _ _ _ _ _) (SI (B + 2) (B + 4) (B + 6)) hS (fun w2 => PB w2 (B + 2) a (inP b m n) ∧ PB w2 (B + 4) b (more 0 n) ∧ w2.heap[B + 6]? = some (.cells #[.int .i64 (midI a b m n)] 3 (0, 0))) [{ v := pan (B + 2), recovered := true }] rfl (fun k => ?_)).mono ?_
    · exact (hmid k).mono (fun _ _ h => ⟨h.1.trans e1, h.2.1, h.2.2⟩)
    · rintro e w' ⟨rfl, hO, hD⟩
      exact ⟨rfl, hfin w' hO hD⟩
  · have hc : ¬ (more 0 n ≤ Fl.aff b ∧ ¬ more 0 m ≤ Fl.aff a) := of_decide_eq_false hr
    have e1 : midEnd (B + 2) a b m n = .returned (.tuple #[]) := by unfold midEnd; rw [if_neg hc]
    refine (run_ret (B + 2) a 0 w h3 (by omega) _ _ (mid_enter _ _ _ _ _) (SI (B + 2) (B + 4) (B + 6)) hS (fun w2 => PB w2 (B + 2) a (inP b m n) ∧ PB w2 (B + 4) b (more 0 n) ∧ w2.heap[B + 6]? = some (.cells #[.int .i64 (midI a b m n)] 3 (0, 0))) (fun k => ?_)).mono ?_
    · exact (hmid k).mono (fun _ _ h => ⟨h.1.trans e1, h.2.1, h.2.2⟩)
    · rintro e w' ⟨rfl, hO, hD⟩
      exact ⟨rfl, hfin w' hO hD⟩

set_option maxRecDepth 100000 in
set_option maxHeartbeats 1600000 in
theorem nested_any (a : Nat) (_ha : (Lit.float .f64 a).wf = true) (b : Nat) (_hb : (Lit.float .f64 b).wf = true) (m : Int) (hm : -9223372036854775808 ≤ m ∧ m ≤ 9223372036854775807) (n : Int) (hn : -9223372036854775808 ≤ n ∧ n ≤ 9223372036854775807) (w : World) :
    Calls Try.prog 8 #[.float .f64 a, .float .f64 b, .int .i64 m, .int .i64 n] w fun e w' => e = .returned (.bool true) ∧ Below w.heap.size w w' := by
  have hmf : ∀ (fn : Fn) (first cap : Array Value) (w : World), (Instr.makeFunc fn first cap).run Try.prog w = .ok (.func fn first cap) w := fun _ _ _ _ => rfl
  rcases (show (¬ more 0 n ≤ Fl.aff b ∧ (0 : Nat) = 0) ∨ (more 0 n ≤ Fl.aff b ∧ more 0 m ≤ Fl.aff a) ∨ (more 0 n ≤ Fl.aff b ∧ ¬ more 0 m ≤ Fl.aff a) by omega) with ⟨hN, hM⟩ | ⟨hN, hM⟩ | ⟨hN, hM⟩
  · have R1 := nrun w.heap.size a b m n hm hn true (by simp; omega)
    have R := Lib.hid R1
    have HN := Lib.hid hN
    have HM := Lib.hid hM
    have eI := Lib.hid (show midI a b m n = 2 by unfold midI; rw [if_pos (by omega)])
    have eP := Lib.hid (show inP b m n = 0 by unfold inP; rw [if_pos (by omega)])
    clear R1 hN hM
    go_enter Try.func8, Try.ntmps8
    go_wp2_with fail
    refine (new_any _ _).mono ?_
    rintro e w1 ⟨rfl, rfl⟩
    go_wp2_with fail
    refine (new_any _ _).mono ?_
    rintro e w1 ⟨rfl, rfl⟩
    go_wp2_with fail
    refine (R.out _ (st_zero w a b m n)).mono ?_
    rintro e W1 ⟨rfl, hS1, hO1⟩
    rw [eI.out, eP.out] at hS1
    have hO := (st_below w a b m n).trans (hO1.mono (fun _ _ h => h))
    have hl : w.heap.size + 7 ≤ W1.heap.size := by have := blk_lt hS1.ic; omega
    have HS1 := Lib.hid hS1
    clear hS1 hO1 R eI eP
    go_wp2_with fail
    refine (new_any _ _).mono ?_
    rintro e w1 ⟨rfl, rfl⟩
    go_wp2_with fail
    refine (new_any _ _).mono ?_
    rintro e w1 ⟨rfl, rfl⟩
    have hS2 : ST ((W1.alloc (.cells #[.float .f64 a, .int .u64 0] 49)).alloc (.cells #[.float .f64 b, .int .u64 0] 49)) w.heap.size a b m n _ _ _ := HS1.out.only (S := fun _ => False) (((Only.refl _ _).alloc _).alloc _) (fun _ h => h.elim)
    have hX : PB ((W1.alloc (.cells #[.float .f64 a, .int .u64 0] 49)).alloc (.cells #[.float .f64 b, .int .u64 0] 49)) W1.heap.size a 0 := blk_alloc (blk_new W1 _) _
    have hY : PB ((W1.alloc (.cells #[.float .f64 a, .int .u64 0] 49)).alloc (.cells #[.float .f64 b, .int .u64 0] 49)) (W1.heap.size + 1) b 0 := blk_new' _ _ _ (by simp) rfl
    have hO2 := (hO.alloc (.cells #[.float .f64 a, .int .u64 0] 49)).alloc (.cells #[.float .f64 b, .int .u64 0] 49)
    have cn := blk_cell hS2.nb 0
    simp at cn
    have HS2 := Lib.hid hS2
    have HX := Lib.hid hX
    have HY := Lib.hid hY
    clear hS2 hX hY hO HS1
    go_wp2_with fail
    refine (spends_k (W1.heap.size + 1) b 0 (more 0 n) false (by omega) n hn (by unfold spn; rw [if_neg (by omega)]) (by have := HN.out; simp <;> omega) _ HY.out).mono ?_
    rintro e W2 ⟨rfl, hO3, hY3⟩
    have hS3 := HS2.out.only hO3 (by rintro k rfl; omega)
    have hX3 := hO3.blk HX.out (by omega)
    have hO4 := hO2.trans (only_ge hO3 (by omega))
    have cm2 := blk_cell hS3.mb 0
    have cp := blk_cell hS3.pc 0
    have cq := blk_cell hS3.qc 0
    have ci := blk_cell hS3.ic 0
    simp at cm2 cp cq ci
    have HS3 := Lib.hid hS3
    have HX3 := Lib.hid hX3
    clear hS3 hX3 hY3 hO3 HS2 HX HY hO2 cn
    go_wp2_with fail
    refine (over_k (w.heap.size + 2) a 0 false (by have := HN.out; have := HM.out; simp <;> omega) _ HS3.out.pp).mono ?_
    rintro e w4 ⟨rfl, k1, rfl⟩
    go_wp2_with fail
    refine (over_k (w.heap.size + 4) b (more 0 n) true (by have := HN.out; have := HM.out; simp <;> omega) _ (pb_drewN HS3.out.qq k1)).mono ?_
    rintro e w4 ⟨rfl, k2, rfl⟩
    go_wp2_with fail
    refine (awake_any _).mono ?_
    rintro e w5 ⟨rfl, hB⟩
    have hz := hO4.size
    have hB2 : Below w.heap.size w w5 := ((hO4.trans (only_drewN _ _ (k1 + k2))).below (Nat.le_refl _) (fun k hk => by omega)).trans (hB.mono hz)
    clear hB
    go_wp2_with fail
    go_ret
    exact ⟨rfl, hB2⟩
  · have R1 := nrun w.heap.size a b m n hm hn true (by simp; omega)
    have R := Lib.hid R1
    have HN := Lib.hid hN
    have HM := Lib.hid hM
    have eI := Lib.hid (show midI a b m n = 1 by unfold midI; rw [if_neg (by omega), if_neg (by omega)])
    have eP := Lib.hid (show inP b m n = more 0 m by unfold inP; rw [if_neg (by omega)])
    clear R1 hN hM
    go_enter Try.func8, Try.ntmps8
    go_wp2_with fail
    refine (new_any _ _).mono ?_
    rintro e w1 ⟨rfl, rfl⟩
    go_wp2_with fail
    refine (new_any _ _).mono ?_
    rintro e w1 ⟨rfl, rfl⟩
    go_wp2_with fail
    refine (R.out _ (st_zero w a b m n)).mono ?_
    rintro e W1 ⟨rfl, hS1, hO1⟩
    rw [eI.out, eP.out] at hS1
    have hO := (st_below w a b m n).trans (hO1.mono (fun _ _ h => h))
    have hl : w.heap.size + 7 ≤ W1.heap.size := by have := blk_lt hS1.ic; omega
    have HS1 := Lib.hid hS1
    clear hS1 hO1 R eI eP
    go_wp2_with fail
    refine (new_any _ _).mono ?_
    rintro e w1 ⟨rfl, rfl⟩
    go_wp2_with fail
    refine (new_any _ _).mono ?_
    rintro e w1 ⟨rfl, rfl⟩
    have hS2 : ST ((W1.alloc (.cells #[.float .f64 a, .int .u64 0] 49)).alloc (.cells #[.float .f64 b, .int .u64 0] 49)) w.heap.size a b m n _ _ _ := HS1.out.only (S := fun _ => False) (((Only.refl _ _).alloc _).alloc _) (fun _ h => h.elim)
    have hX : PB ((W1.alloc (.cells #[.float .f64 a, .int .u64 0] 49)).alloc (.cells #[.float .f64 b, .int .u64 0] 49)) W1.heap.size a 0 := blk_alloc (blk_new W1 _) _
    have hY : PB ((W1.alloc (.cells #[.float .f64 a, .int .u64 0] 49)).alloc (.cells #[.float .f64 b, .int .u64 0] 49)) (W1.heap.size + 1) b 0 := blk_new' _ _ _ (by simp) rfl
    have hO2 := (hO.alloc (.cells #[.float .f64 a, .int .u64 0] 49)).alloc (.cells #[.float .f64 b, .int .u64 0] 49)
    have cn := blk_cell hS2.nb 0
    simp at cn
    have HS2 := Lib.hid hS2
    have HX := Lib.hid hX
    have HY := Lib.hid hY
    clear hS2 hX hY hO HS1
    go_wp2_with fail
    refine (spends_k (W1.heap.size + 1) b 0 (more 0 n) true (by omega) n hn (by unfold spn; rw [if_neg (by omega)]) (by have := HN.out; simp <;> omega) _ HY.out).mono ?_
    rintro e W2 ⟨rfl, hO3, hY3⟩
    have hS3 := HS2.out.only hO3 (by rintro k rfl; omega)
    have hX3 := hO3.blk HX.out (by omega)
    have hO4 := hO2.trans (only_ge hO3 (by omega))
    have cm2 := blk_cell hS3.mb 0
    have cp := blk_cell hS3.pc 0
    have cq := blk_cell hS3.qc 0
    have ci := blk_cell hS3.ic 0
    simp at cm2 cp cq ci
    have HS3 := Lib.hid hS3
    have HX3 := Lib.hid hX3
    clear hS3 hX3 hY3 hO3 HS2 HX HY hO2 cn
    go_wp2_with fail
    refine (spends_k W1.heap.size a 0 (more 0 m) true (by omega) m hm (by unfold spn; rw [if_neg (by omega)]) (by have := HM.out; simp <;> omega) _ HX3.out).mono ?_
    rintro e W3 ⟨rfl, hO5, hX5⟩
    have hS5 := HS3.out.only hO5 (by rintro k rfl; omega)
    have hO6 := hO4.trans (only_ge hO5 (by omega))
    have cp := blk_cell hS5.pc 0
    have cq := blk_cell hS5.qc 0
    have ci := blk_cell hS5.ic 0
    simp at cp cq ci
    have HS5 := Lib.hid hS5
    clear hS5 hX5 hO5 HS3 HX3 hO4
    go_wp2_with fail
    refine (over_k (w.heap.size + 2) a (more 0 m) false (by have := HN.out; have := HM.out; simp <;> omega) _ HS5.out.pp).mono ?_
    rintro e w4 ⟨rfl, k1, rfl⟩
    go_wp2_with fail
    refine (over_k (w.heap.size + 4) b (more 0 n) false (by have := HN.out; have := HM.out; simp <;> omega) _ (pb_drewN HS5.out.qq k1)).mono ?_
    rintro e w4 ⟨rfl, k2, rfl⟩
    go_wp2_with fail
    refine (awake_any _).mono ?_
    rintro e w5 ⟨rfl, hB⟩
    have hz := hO6.size
    have hB2 : Below w.heap.size w w5 := ((hO6.trans (only_drewN _ _ (k1 + k2))).below (Nat.le_refl _) (fun k hk => by omega)).trans (hB.mono hz)
    clear hB
    go_wp2_with fail
    go_ret
    exact ⟨rfl, hB2⟩
  · have R1 := nrun w.heap.size a b m n hm hn false (by simp; omega)
    have R := Lib.hid R1
    have HN := Lib.hid hN
    have HM := Lib.hid hM
    have eI := Lib.hid (show midI a b m n = 0 by unfold midI; rw [if_neg (by omega), if_pos (by omega)])
    have eP := Lib.hid (show inP b m n = more 0 m by unfold inP; rw [if_neg (by omega)])
    clear R1 hN hM
    go_enter Try.func8, Try.ntmps8
    go_wp2_with fail
    refine (new_any _ _).mono ?_
    rintro e w1 ⟨rfl, rfl⟩
    go_wp2_with fail
    refine (new_any _ _).mono ?_
    rintro e w1 ⟨rfl, rfl⟩
    go_wp2_with fail
    refine (R.out _ (st_zero w a b m n)).mono ?_
    rintro e W1 ⟨rfl, hS1, hO1⟩
    rw [eI.out, eP.out] at hS1
    have hO := (st_below w a b m n).trans (hO1.mono (fun _ _ h => h))
    have hl : w.heap.size + 7 ≤ W1.heap.size := by have := blk_lt hS1.ic; omega
    have HS1 := Lib.hid hS1
    clear hS1 hO1 R eI eP
    go_wp2_with fail
    refine (new_any _ _).mono ?_
    rintro e w1 ⟨rfl, rfl⟩
    go_wp2_with fail
    refine (new_any _ _).mono ?_
    rintro e w1 ⟨rfl, rfl⟩
    have hS2 : ST ((W1.alloc (.cells #[.float .f64 a, .int .u64 0] 49)).alloc (.cells #[.float .f64 b, .int .u64 0] 49)) w.heap.size a b m n _ _ _ := HS1.out.only (S := fun _ => False) (((Only.refl _ _).alloc _).alloc _) (fun _ h => h.elim)
    have hX : PB ((W1.alloc (.cells #[.float .f64 a, .int .u64 0] 49)).alloc (.cells #[.float .f64 b, .int .u64 0] 49)) W1.heap.size a 0 := blk_alloc (blk_new W1 _) _
    have hY : PB ((W1.alloc (.cells #[.float .f64 a, .int .u64 0] 49)).alloc (.cells #[.float .f64 b, .int .u64 0] 49)) (W1.heap.size + 1) b 0 := blk_new' _ _ _ (by simp) rfl
    have hO2 := (hO.alloc (.cells #[.float .f64 a, .int .u64 0] 49)).alloc (.cells #[.float .f64 b, .int .u64 0] 49)
    have cn := blk_cell hS2.nb 0
    simp at cn
    have HS2 := Lib.hid hS2
    have HX := Lib.hid hX
    have HY := Lib.hid hY
    clear hS2 hX hY hO HS1
    go_wp2_with fail
    refine (spends_k (W1.heap.size + 1) b 0 (more 0 n) true (by omega) n hn (by unfold spn; rw [if_neg (by omega)]) (by have := HN.out; simp <;> omega) _ HY.out).mono ?_
    rintro e W2 ⟨rfl, hO3, hY3⟩
    have hS3 := HS2.out.only hO3 (by rintro k rfl; omega)
    have hX3 := hO3.blk HX.out (by omega)
    have hO4 := hO2.trans (only_ge hO3 (by omega))
    have cm2 := blk_cell hS3.mb 0
    have cp := blk_cell hS3.pc 0
    have cq := blk_cell hS3.qc 0
    have ci := blk_cell hS3.ic 0
    simp at cm2 cp cq ci
    have HS3 := Lib.hid hS3
    have HX3 := Lib.hid hX3
    clear hS3 hX3 hY3 hO3 HS2 HX HY hO2 cn
    go_wp2_with fail
    refine (spends_k W1.heap.size a 0 (more 0 m) false (by omega) m hm (by unfold spn; rw [if_neg (by omega)]) (by have := HM.out; simp <;> omega) _ HX3.out).mono ?_
    rintro e W3 ⟨rfl, hO5, hX5⟩
    have hS5 := HS3.out.only hO5 (by rintro k rfl; omega)
    have hO6 := hO4.trans (only_ge hO5 (by omega))
    have cp := blk_cell hS5.pc 0
    have cq := blk_cell hS5.qc 0
    have ci := blk_cell hS5.ic 0
    simp at cp cq ci
    have HS5 := Lib.hid hS5
    clear hS5 hX5 hO5 HS3 HX3 hO4
    go_wp2_with fail
    refine (over_k (w.heap.size + 2) a (more 0 m) true (by have := HN.out; have := HM.out; simp <;> omega) _ HS5.out.pp).mono ?_
    rintro e w4 ⟨rfl, k1, rfl⟩
    go_wp2_with fail
    refine (over_k (w.heap.size + 4) b (more 0 n) false (by have := HN.out; have := HM.out; simp <;> omega) _ (pb_drewN HS5.out.qq k1)).mono ?_
    rintro e w4 ⟨rfl, k2, rfl⟩
    go_wp2_with fail
    refine (awake_any _).mono ?_
    rintro e w5 ⟨rfl, hB⟩
    have hz := hO6.size
    have hB2 : Below w.heap.size w w5 := ((hO6.trans (only_drewN _ _ (k1 + k2))).below (Nat.le_refl _) (fun k hk => by omega)).trans (hB.mono hz)
    clear hB
    go_wp2_with fail
    go_ret
    exact ⟨rfl, hB2⟩
end Go.Proofs.Ytjcjalobbgkcpaa
