/-
  slices.choosePivotCmpFunc of floats by tally.Compare, and what it calls: walked.
-/
import Derived.Test.YtedllapajgcfeaaGreatDoorPq
import Derived.Deep.DeepCutAuto
namespace Go.Proofs.YtedllapajgcfeaaGreatDoor
set_option linter.unusedVariables false
set_option linter.unusedSimpArgs false
open Go.RowKit Go.Proofs.YtedllapajgcfeaaGreatDoorW.PrintWords

theorem Bx.blk {g : Nat} {a w : World} (h : Bx g a w) {j : Nat} (hj : j < a.heap.size) (hn : j ≠ g) : w.heap[j]? = a.heap[j]? := by
  rcases Nat.lt_or_gt_of_ne hn with h1 | h1
  · exact h.1.block j h1
  · exact h.2 j h1 hj
/-- A block that holds one whole number. -/
def One (w : World) (s : Nat) : Prop := ∃ n : Int, w.heap[s]? = some (.cells #[.int .i64 n] 3 (0, 0))
theorem RowF.bx {T : List Value} {w w' : World} {g s : Nat} {l : List Nat} (h : RowF T w g l) (hb : Bx s w w') (hn : g ≠ s) : RowF T w' g l := (hb.blk (blk_lt h) hn).trans h
theorem One.lt {w : World} {s : Nat} (h : One w s) : s < w.heap.size := by obtain ⟨n, h⟩ := h; exact blk_lt h
/-- One of some places is handed back; a count may be higher. -/
def Ord2 (s p q : Nat) (w : World) (e : Ending) (w' : World) : Prop := ∃ x y : Nat, e = .returned (.tuple #[.int .i64 x, .int .i64 y]) ∧ ((x = p ∧ y = q) ∨ (x = q ∧ y = p)) ∧ One w' s ∧ Bx s w w'
set_option maxHeartbeats 3200000 in
theorem order2_any (T : List Value) (g cap s p q N : Nat) (L : List Nat) (hN : L.length = N) (hL : N ≤ 1000) (h64 : Fin64 L) (hp : p < N) (hq : q < N) (hgs : g ≠ s) (w : World) (hg : RowF T w g L) (hs : One w s) :
    Calls Tryz.prog 133 #[.slice (some ⟨g, 0, none⟩) N cap, .int .i64 p, .int .i64 q, .pointer (some ⟨s, 0, none⟩), .func (.func 9) #[] #[]] w (Ord2 s p q w) := by
  have HS := Lib.hid hs
  obtain ⟨W0, hW0, HR⟩ : ∃ z, z = w ∧ RowF T z g L := ⟨_, rfl, hg⟩
  obtain ⟨n, hn⟩ := hs
  obtain ⟨x, y, c, ca, cb, HC, HCMP, HQ⟩ := cmp_ctx hg h64 q p (by omega) (by omega)
  have iup : (p : Int) < N := by omega
  have ivp : (0 : Int) ≤ (p : Int) := by omega
  have iwp : IntKind.i64.wrap (p : Int) = (p : Int) := IntWalk.i64_in _ (by omega)
  have iuq : (q : Int) < N := by omega
  have ivq : (0 : Int) ≤ (q : Int) := by omega
  have iwq : IntKind.i64.wrap (q : Int) = (q : Int) := IntWalk.i64_in _ (by omega)
  have hN0 : Hid (∀ z, Below w.heap.size w z → z.heap[s]? = some (.cells #[.int .i64 n] 3 (0, 0))) := Lib.hid (fun z hz => blk_below hn hz)
  subst hW0
  have HGS := Lib.hid hgs
  clear hn hg HR hN hgs h64
  cases hc : decide (c < 0)
  all_goals
    go_enter Tryz.func133, Tryz.ntmps133
    go_wp2_with fail
    go_region_held3 (fun z => Below W0.heap.size W0 z ∧ z.cell? ⟨g, q, none⟩ = some (.float .f64 x) ∧ z.cell? ⟨g, p, none⟩ = some (.float .f64 y)) ((refine ⟨?_, HC.out _ ?_⟩ <;> (repeat (first | (with_reducible exact Below.refl _ _) | (with_reducible refine Below.drew ?_) | (with_reducible refine bl_drewN ?_ _) | ((with_reducible apply bthen); rotate_left; assumption))))) ((go_at_call 9; (with_reducible refine (HCMP.out _).mono ?_); rintro e w3 ⟨rfl, B3⟩))
    all_goals
      have hS := ‹Below W0.heap.size W0 w3 ∧ _›
      have hb := hN0.out w3 hS.1
      have c0 := blk_cell hb 0
      have f0 := blk_frozen hb 0
      simp at c0
      have HB := Lib.hid hb
      have HSS := Lib.hid hS.1
      clear hb hS
      go_wp2_with fail
      go_ret2
      first
        | exact ⟨p, q, rfl, Or.inl ⟨rfl, rfl⟩, ⟨n, HB.out⟩, (Bx.refl s _).call HS.out.lt HSS.out⟩
        | exact ⟨q, p, rfl, Or.inr ⟨rfl, rfl⟩, ⟨_, blk_put HB.out 0 _ rfl⟩, ((Bx.refl s _).call HS.out.lt HSS.out).set 0 _⟩
def Med (s : Nat) (P : Nat → Prop) (w : World) (e : Ending) (w' : World) : Prop := ∃ x : Nat, e = .returned (.int .i64 x) ∧ P x ∧ One w' s ∧ Bx s w w'
set_option maxHeartbeats 3200000 in
theorem median_any (T : List Value) (g cap s p q r N : Nat) (L : List Nat) (hN : L.length = N) (hL : N ≤ 1000) (h64 : Fin64 L) (hp : p < N) (hq : q < N) (hr : r < N) (hgs : g ≠ s) (w : World) (hg : RowF T w g L) (hs : One w s) :
    Calls Tryz.prog 127 #[.slice (some ⟨g, 0, none⟩) N cap, .int .i64 p, .int .i64 q, .int .i64 r, .pointer (some ⟨s, 0, none⟩), .func (.func 9) #[] #[]] w (Med s (fun x => x = p ∨ x = q ∨ x = r) w) := by
  have HO := Lib.hid (fun p q hp hq z h1 h2 => order2_any T g cap s p q N L hN hL h64 hp hq hgs z h1 h2)
  have H0 := Lib.hid (And.intro hg (And.intro hs hgs))
  clear hg hs hN h64 hgs
  go_enter Tryz.func127, Tryz.ntmps127
  go_wp2_with fail
  refine (HO.out p q hp hq _ H0.out.1 H0.out.2.1).mono ?_
  rintro e w1 ⟨p1, q1, rfl, hpq1, hs1, hB1⟩
  have H1 := Lib.hid (And.intro (H0.out.1.bx hB1 H0.out.2.2) (And.intro hs1 hB1))
  have HE1 := Lib.hid hpq1
  have hp1 : p1 < N := by omega
  have hq1 : q1 < N := by omega
  clear hs1 hB1 hpq1
  go_wp2_with fail
  refine (HO.out q1 r hq1 hr _ H1.out.1 H1.out.2.1).mono ?_
  rintro e w2 ⟨p2, q2, rfl, hpq2, hs2, hB2⟩
  have H2 := Lib.hid (And.intro (H1.out.1.bx hB2 H0.out.2.2) (And.intro hs2 (H1.out.2.2.trans hB2)))
  have HE2 := Lib.hid hpq2
  have hp2 : p2 < N := by omega
  have hq2 : q2 < N := by omega
  clear hs2 hB2 hpq2
  go_wp2_with fail
  refine (HO.out p1 p2 hp1 hp2 _ H2.out.1 H2.out.2.1).mono ?_
  rintro e w3 ⟨p3, q3, rfl, hpq3, hs3, hB3⟩
  have H3 := Lib.hid (And.intro hs3 (H2.out.2.2.trans hB3))
  have HE3 := Lib.hid hpq3
  clear hs3 hB3 hpq3
  go_wp2_with fail
  go_ret
  exact ⟨q3, rfl, by have h1 := HE1.out; have h2 := HE2.out; have h3 := HE3.out; omega, H3.out⟩
set_option maxHeartbeats 3200000 in
theorem medadj_any (T : List Value) (g cap s p N : Nat) (L : List Nat) (hN : L.length = N) (hL : N ≤ 1000) (h64 : Fin64 L) (hp : p + 1 < N) (hp0 : 0 < p) (hgs : g ≠ s) (w : World) (hg : RowF T w g L) (hs : One w s) :
    Calls Tryz.prog 126 #[.slice (some ⟨g, 0, none⟩) N cap, .int .i64 p, .pointer (some ⟨s, 0, none⟩), .func (.func 9) #[] #[]] w (Med s (fun x => p ≤ x + 1 ∧ x ≤ p + 1) w) := by
  obtain ⟨m, hm⟩ : ∃ m : Nat, p = m + 1 := ⟨p - 1, by omega⟩
  obtain ⟨n, hn⟩ : ∃ n : Nat, p + 1 = n := ⟨_, rfl⟩
  have HO := Lib.hid (median_any T g cap s m p n N L hN hL h64 (by omega) (by omega) (by omega) hgs w hg hs)
  have e1 : (p : Int) - 1 = (m : Int) := by omega
  have e2 : (p : Int) + 1 = (n : Int) := by omega
  have w1 : IntKind.i64.wrap (m : Int) = (m : Int) := IntWalk.i64_in _ (by omega)
  have w2 : IntKind.i64.wrap (n : Int) = (n : Int) := IntWalk.i64_in _ (by omega)
  have HE := Lib.hid (And.intro hm hn)
  clear hg hs hN h64 hgs hm hn
  go_enter Tryz.func126, Tryz.ntmps126
  go_wp2_with fail
  refine HO.out.mono ?_
  rintro e w1 ⟨x, rfl, hx, h1, h2⟩
  have HF := Lib.hid (And.intro hx (And.intro h1 h2))
  clear hx h1 h2
  go_wp2_with fail
  go_ret
  exact ⟨x, rfl, by have h1 := HF.out.1; have h2 := HE.out; omega, HF.out.2⟩
def PivOut (a b : Nat) (w : World) (e : Ending) (w' : World) : Prop := ∃ (p : Nat) (h : Int), e = .returned (.tuple #[.int .i64 p, .int .i64 h]) ∧ a ≤ p ∧ p < b ∧ Below w.heap.size w w'
set_option maxRecDepth 100000 in
set_option maxHeartbeats 6400000 in
theorem pivot_any (T : List Value) (g cap a b N : Nat) (L : List Nat) (hN : L.length = N) (hL : N ≤ 1000) (h64 : Fin64 L) (hab : a + 12 < b) (hbl : b ≤ N) (w : World) (hg : RowF T w g L) :
    Calls Tryz.prog 88 #[.slice (some ⟨g, 0, none⟩) N cap, .int .i64 a, .int .i64 b, .func (.func 9) #[] #[]] w (PivOut a b w) := by
  have HG := Lib.hid (blk_lt hg)
  obtain ⟨n, hn⟩ : ∃ n : Nat, b - a = n := ⟨_, rfl⟩
  obtain ⟨v, hv⟩ : ∃ v : Nat, n / 4 = v := ⟨_, rfl⟩
  obtain ⟨v2, hv2⟩ : ∃ v2 : Nat, v * 2 = v2 := ⟨_, rfl⟩
  obtain ⟨v3, hv3⟩ : ∃ v3 : Nat, v * 3 = v3 := ⟨_, rfl⟩
  obtain ⟨i, hi⟩ : ∃ i : Nat, a + v = i := ⟨_, rfl⟩
  obtain ⟨j, hj⟩ : ∃ j : Nat, a + v2 = j := ⟨_, rfl⟩
  obtain ⟨k, hk⟩ : ∃ k : Nat, a + v3 = k := ⟨_, rfl⟩
  have e1 : (b : Int) - (a : Int) = (n : Int) := by omega
  have e2 : (n : Int) / 4 = (v : Int) := by omega
  have e2' : Int.tdiv (n : Int) 4 = (v : Int) := by rw [Int.tdiv_eq_ediv_of_nonneg (by omega)]; exact e2
  have e3 : (v : Int) * 2 = (v2 : Int) := by omega
  have e4 : (v : Int) * 3 = (v3 : Int) := by omega
  have e5 : (a : Int) + (v : Int) = (i : Int) := by omega
  have e6 : (a : Int) + (v2 : Int) = (j : Int) := by omega
  have e7 : (a : Int) + (v3 : Int) = (k : Int) := by omega
  have w1 : IntKind.i64.wrap (n : Int) = (n : Int) := IntWalk.i64_in _ (by omega)
  have w2 : IntKind.i64.wrap (v : Int) = (v : Int) := IntWalk.i64_in _ (by omega)
  have w3 : IntKind.i64.wrap (v2 : Int) = (v2 : Int) := IntWalk.i64_in _ (by omega)
  have w4 : IntKind.i64.wrap (v3 : Int) = (v3 : Int) := IntWalk.i64_in _ (by omega)
  have w5 : IntKind.i64.wrap (i : Int) = (i : Int) := IntWalk.i64_in _ (by omega)
  have w6 : IntKind.i64.wrap (j : Int) = (j : Int) := IntWalk.i64_in _ (by omega)
  have w7 : IntKind.i64.wrap (k : Int) = (k : Int) := IntWalk.i64_in _ (by omega)
  have t8 : decide ((8 : Int) ≤ (n : Int)) = true := decide_eq_true (by omega)
  have HO := Lib.hid (fun s p q r hp hq hr hgs z h1 h2 => median_any T g cap s p q r N L hN hL h64 hp hq hr hgs z h1 h2)
  have HA := Lib.hid (fun s p hp hp0 hgs z h1 h2 => medadj_any T g cap s p N L hN hL h64 hp hp0 hgs z h1 h2)
  have h50 : 50 ≤ n → 12 ≤ v := fun h => by omega
  have hii : a ≤ i ∧ i < j ∧ j < k ∧ k + 1 < b ∧ 0 < i := ⟨by omega, by omega, by omega, by omega, by omega⟩
  have HH := Lib.hid (And.intro hii (And.intro (show 50 ≤ n → a + 12 ≤ i by omega) (And.intro hab hbl)))
  have HRW : Hid (RowF T (w.alloc (.cells #[.int .i64 0] 3)) g L ∧ One (w.alloc (.cells #[.int .i64 0] 3)) w.heap.size ∧ g ≠ w.heap.size) := Lib.hid ⟨hg.below ((Below.refl _ _).alloc (Nat.le_refl _) _), ⟨0, blk_new _ _⟩, by have := HG.out; omega⟩
  clear hg hN h64 hn hv hv2 hv3 hi hj hk hii h50
  cases h5 : decide ((50 : Int) ≤ (n : Int))
  · go_enter Tryz.func88, Tryz.ntmps88
    go_wp2_with fail
    have HB0 : Hid (Below w.heap.size w (w.alloc (.cells #[.int .i64 0] 3))) := Lib.hid ((Below.refl _ _).alloc (Nat.le_refl _) _)
    refine (HO.out w.heap.size i j k (by have := HH.out; omega) (by have := HH.out; omega) (by have := HH.out; omega) HRW.out.2.2 _ HRW.out.1 HRW.out.2.1).mono ?_
    rintro e w8 ⟨x, rfl, hx, hs1, hb1⟩
    have HZ := Lib.hid (And.intro (show a ≤ x ∧ x < b by have := HH.out; omega) (HB0.out.trans hb1.1))
    obtain ⟨sn, hsn⟩ := hs1
    have c0 := blk_cell hsn 0
    simp at c0
    have t0 : (sn == 0) = decide (sn = 0) := by by_cases h : sn = 0 <;> simp [h]
    clear hsn
    cases hz0 : (sn == 0)
    · cases hz1 : (sn == 12)
      all_goals
        clear t0
        go_wp2_with fail
        go_ret2
        exact ⟨_, _, rfl, HZ.out.1.1, HZ.out.1.2, HZ.out.2⟩
    · clear t0
      go_wp2_with fail
      go_ret2
      exact ⟨_, _, rfl, HZ.out.1.1, HZ.out.1.2, HZ.out.2⟩
  · go_enter Tryz.func88, Tryz.ntmps88
    go_wp2_with fail
    have HB0 : Hid (Below w.heap.size w (w.alloc (.cells #[.int .i64 0] 3))) := Lib.hid ((Below.refl _ _).alloc (Nat.le_refl _) _)
    have h50 : 50 ≤ n := by have := of_decide_eq_true h5; omega
    have H5 := Lib.hid h50
    clear h50
    refine (HA.out w.heap.size i (by have := HH.out; omega) (by have := HH.out; omega) HRW.out.2.2 _ HRW.out.1 HRW.out.2.1).mono ?_
    rintro e w8 ⟨i', rfl, hx, hs1, hb1⟩
    have H1 := Lib.hid (And.intro hx (And.intro (HRW.out.1.bx hb1 HRW.out.2.2) (And.intro hs1 hb1)))
    clear hx hs1 hb1
    go_wp2_with fail
    refine (HA.out w.heap.size j (by have := HH.out; omega) (by have := HH.out; omega) HRW.out.2.2 _ H1.out.2.1 H1.out.2.2.1).mono ?_
    rintro e w9 ⟨j', rfl, hx, hs1, hb1⟩
    have H2 := Lib.hid (And.intro hx (And.intro (H1.out.2.1.bx hb1 HRW.out.2.2) (And.intro hs1 (H1.out.2.2.2.trans hb1))))
    clear hx hs1 hb1
    go_wp2_with fail
    refine (HA.out w.heap.size k (by have := HH.out; omega) (by have := HH.out; omega) HRW.out.2.2 _ H2.out.2.1 H2.out.2.2.1).mono ?_
    rintro e w10 ⟨k', rfl, hx, hs1, hb1⟩
    have H3 := Lib.hid (And.intro hx (And.intro (H2.out.2.1.bx hb1 HRW.out.2.2) (And.intro hs1 (H2.out.2.2.2.trans hb1))))
    clear hx hs1 hb1
    go_wp2_with fail
    have hbd : a ≤ i' ∧ i' < b ∧ a ≤ j' ∧ j' < b ∧ a ≤ k' ∧ k' < b := by
      have h1 := H1.out.1
      have h2 := H2.out.1
      have h3 := H3.out.1
      have h4 := HH.out
      have h5 := H5.out
      have h6 := h4.2.1 h5
      omega
    have HBD := Lib.hid hbd
    clear hbd
    refine (HO.out w.heap.size i' j' k' (by have := HH.out; have := HBD.out; omega) (by have := HH.out; have := HBD.out; omega) (by have := HH.out; have := HBD.out; omega) HRW.out.2.2 _ H3.out.2.1 H3.out.2.2.1).mono ?_
    rintro e w11 ⟨x, rfl, hx, hs1, hb1⟩
    have HZ := Lib.hid (And.intro (show a ≤ x ∧ x < b by have := HBD.out; omega) (HB0.out.trans (H3.out.2.2.2.trans hb1).1))
    obtain ⟨sn, hsn⟩ := hs1
    have c0 := blk_cell hsn 0
    simp at c0
    have t0 : (sn == 0) = decide (sn = 0) := by by_cases h : sn = 0 <;> simp [h]
    clear hsn
    cases hz0 : (sn == 0)
    · cases hz1 : (sn == 12)
      all_goals
        clear t0
        go_wp2_with fail
        go_ret2
        exact ⟨_, _, rfl, HZ.out.1.1, HZ.out.1.2, HZ.out.2⟩
    · clear t0
      go_wp2_with fail
      go_ret2
      exact ⟨_, _, rfl, HZ.out.1.1, HZ.out.1.2, HZ.out.2⟩
end Go.Proofs.YtedllapajgcfeaaGreatDoor
