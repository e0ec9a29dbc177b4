/-
  The document's 'down': walked.
-/
import Derived.Test.YtebkaajnnjfhjaaDoorIdx
namespace Go.Proofs.YtebkaajnnjfhjaaDoor
set_option linter.unusedVariables false
set_option linter.unusedSimpArgs false
open Go.RowKit Go.Proofs.YtebkaajnnjfhjaaDoorW.PrintWords
open Tr (Nd Pt dnF bump)

/-- But for one block, what was there is there. -/
def Bx (g : Nat) (w w' : World) : Prop := Below g w w' ∧ ∀ j, g < j → j < w.heap.size → w'.heap[j]? = w.heap[j]?
theorem Bx.refl (g : Nat) (w : World) : Bx g w w := ⟨Below.refl _ _, fun _ _ _ => rfl⟩
theorem Bx.trans {g : Nat} {a b c : World} (h : Bx g a b) (k : Bx g b c) : Bx g a c := ⟨h.1.trans k.1, fun j h1 h2 => (k.2 j h1 (Nat.lt_of_lt_of_le h2 h.1.size)).trans (h.2 j h1 h2)⟩
theorem Bx.drew {g : Nat} {a w : World} (h : Bx g a w) : Bx g a w.drew := ⟨h.1.drew, h.2⟩
theorem Bx.alloc {g : Nat} {a w : World} (h : Bx g a w) (hg : g < a.heap.size) (o : Obj) : Bx g a (w.alloc o) :=
  ⟨h.1.alloc (Nat.le_trans (Nat.le_of_lt hg) h.1.size) o, fun j h1 h2 => (Below.heap_alloc w o j (Nat.lt_of_lt_of_le h2 h.1.size)).trans (h.2 j h1 h2)⟩
theorem Bx.set {g : Nat} {a w : World} (h : Bx g a w) (i : Nat) (v : Value) : Bx g a (w.setCell ⟨g, i, none⟩ v) :=
  ⟨h.1.setCell (Nat.le_refl _) v, fun j h1 h2 => (Below.heap_setCell w ⟨g, i, none⟩ v j (by show j ≠ g; omega)).trans (h.2 j h1 h2)⟩
theorem Bx.cell {g : Nat} {a w : World} (h : Bx g a w) {p : Addr} (h1 : g < p.block) (h2 : p.block < a.heap.size) : w.cell? p = a.cell? p := World.cell?_of_block (w := a) (h.2 p.block h1 h2)
theorem Bx.call {g : Nat} {a w w' : World} (h : Bx g a w) (hg : g < a.heap.size) (hb : Below w.heap.size w w') : Bx g a w' := h.trans ⟨hb.mono (Nat.le_trans (Nat.le_of_lt hg) h.1.size), fun j _ h2 => hb.block j h2⟩
theorem blk_new_at' (W : World) (o : Obj) (g : Nat) (h : W.heap.size = g) : (W.alloc o).heap[g]? = some o := h ▸ blk_new W o
def ints (u : List Nat) : List Int := u.map fun (n : Nat) => (n : Int)
theorem ints_len (u : List Nat) : (ints u).length = u.length := by simp [ints]
theorem ints_bump (m : Nat) (u : List Nat) (v : Int) (h : ((u.getD m 0 + 1 : Nat) : Int) = v) : ints (bump m u) = (ints u).set m v := by
  unfold bump ints
  rw [List.map_set, h]
theorem dnF_le {ns : List Nd} (f : Nat) : ∀ (k : Int) (u : List Nat), u.length = ns.length → (∀ j, u.getD j 0 ≤ 1) → (dnF ns f k u).1 = true → ∀ j, (dnF ns f k u).2.getD j 0 ≤ 1 := by
  induction f with
  | zero => intro k u _ _ h; simp [dnF] at h
  | succ f ih =>
    intro k u hl hu h
    rw [dnF] at h ⊢
    by_cases h1 : k < 0 ∨ (ns.length : Int) ≤ k
    · rw [if_pos h1] at h; cases h
    rw [if_neg h1] at h ⊢
    by_cases h2 : 1 < (bump k.toNat u).getD k.toNat 0
    · rw [if_pos h2] at h; cases h
    rw [if_neg h2] at h ⊢
    have hb : ∀ j, (bump k.toNat u).getD j 0 ≤ 1 := by
      intro j
      by_cases hj : j = k.toNat
      · subst hj; omega
      · rw [Tr.bump_get (by omega), if_neg hj]; have := hu j; omega
    have hbl : (bump k.toNat u).length = ns.length := (Tr.bump_len _ _).trans hl
    cases hn : ns[k.toNat]? with
    | none => rw [hn] at h; cases h
    | some n =>
      rw [hn] at h
      simp only at h ⊢
      by_cases h34 : n.k = 3 ∨ n.k = 4
      · rw [if_pos h34] at h ⊢
        by_cases h5 : n.a < k ∧ n.b < k
        · rw [if_pos h5] at h ⊢
          by_cases h6 : (dnF ns f n.a (bump k.toNat u)).1 = true
          · rw [if_pos h6] at h ⊢
            exact ih _ _ ((Tr.dnF_len _ _ _ _).trans hbl) (ih _ _ hbl hb h6) h
          · rw [if_neg h6] at h; cases h
        · rw [if_neg h5] at h; cases h
      · rw [if_neg h34] at h ⊢
        by_cases h5 : n.k = 5
        · rw [if_pos h5] at h ⊢
          by_cases h6 : n.a < k
          · rw [if_pos h6] at h ⊢; exact ih _ _ hbl hb h
          · rw [if_neg h6] at h; cases h
        · rw [if_neg h5] at h ⊢; exact hb
def DownSaid (W0 : World) (A A' : Option Addr) (ns : List Nd) (ps : List Pt) (c c' g f : Nat) : Prop := ∀ (k : Int) (u : List Nat) (w : World), Below W0.heap.size W0 w → IB w g (ints u) → u.length = ns.length → (∀ j, u.getD j 0 ≤ 1) → (k < (f : Int) ∨ (ns.length : Int) ≤ k) →
  Calls Tryd.prog 35 #[.agg #[.slice A ns.length c, .slice A' ps.length c'], .int .i64 k, .slice (some ⟨g, 0, none⟩) ns.length ns.length] w fun e w' => e = .returned (.bool (dnF ns f k u).1) ∧ IB w' g (ints (dnF ns f k u).2) ∧ Bx g w w'
set_option maxRecDepth 100000 in
theorem down_out {A A' : Option Addr} {ns : List Nd} {ps : List Pt} (c c' g : Nat) (k : Int) (hk : k < 0 ∨ (ns.length : Int) ≤ k) (u : List Nat) (w : World) (hI : IB w g (ints u)) :
    Calls Tryd.prog 35 #[.agg #[.slice A ns.length c, .slice A' ps.length c'], .int .i64 k, .slice (some ⟨g, 0, none⟩) ns.length ns.length] w fun e w' => e = .returned (.bool false) ∧ IB w' g (ints u) ∧ Bx g w w' := by
  have HBX : Hid (Bx g w (w.alloc (.cells #[.slice A ns.length c, .slice A' ps.length c'] 33))) := Lib.hid ((Bx.refl g w).alloc hI.lt _)
  have HI := Lib.hid (hI.alloc (.cells #[.slice A ns.length c, .slice A' ps.length c'] 33))
  clear hI
  by_cases hk0 : k < 0
  · have d0 : decide (k < 0) = true := decide_eq_true hk0
    clear hk hk0
    go_enter Tryd.func35, Tryd.ntmps35
    go_wp2_with fail
    all_goals
      go_ret
      exact ⟨rfl, HI.out, HBX.out⟩
  · have d0 : decide (k < 0) = false := decide_eq_false hk0
    have d1 : decide ((ns.length : Int) ≤ k) = true := decide_eq_true (by omega)
    clear hk hk0
    go_enter Tryd.func35, Tryd.ntmps35
    go_wp2_with fail
    all_goals
      go_ret
      exact ⟨rfl, HI.out, HBX.out⟩
set_option maxRecDepth 100000 in
set_option maxHeartbeats 6400000 in
theorem down_f {W0 : World} {A A' : Option Addr} {ns : List Nd} {ps : List Pt} (hT : TreeAt W0 A A' ns ps) (c c' g : Nat) (hg : W0.heap.size ≤ g) (hnl : ns.length ≤ 600) (f : Nat) : DownSaid W0 A A' ns ps c c' g f := by
  induction f with
  | zero => intro k u w hB hI _ _ hk; exact down_out c c' g k (by omega) u w hI
  | succ f ih =>
    intro k u w hB hI hl hu hk
    have hgl := hI.lt
    rw [dnF]
    by_cases hko : k < 0 ∨ (ns.length : Int) ≤ k
    · rw [if_pos hko]; exact down_out c c' g k hko u w hI
    rw [if_neg hko]
    obtain ⟨m, rfl⟩ := Int.eq_ofNat_of_zero_le (show 0 ≤ k by omega)
    simp only [Int.toNat_natCast]
    have hmn : m < ns.length := by omega
    have hkn' : (m : Int) < ns.length := by omega
    obtain ⟨a, ha, hab, hNA⟩ := hT.nodes m hmn
    subst ha
    have hbm := Tr.bump_get (k := m) (u := u) (by omega) m
    rw [if_pos rfl] at hbm
    have hum := hu m
    have hcm := (hI.alloc (.cells #[.slice (some a) ns.length c, .slice A' ps.length c'] 33)).cell m (by rw [ints_len]; omega)
    have hfm := (hI.alloc (.cells #[.slice (some a) ns.length c, .slice A' ps.length c'] 33)).frozen m
    have hgd : (ints u)[m]'(by rw [ints_len]; omega) = ((u.getD m 0 : Nat) : Int) := by simp [ints, List.getD, List.getElem?_eq_getElem (show m < u.length by omega)]
    rw [hgd] at hcm
    by_cases h1 : u.getD m 0 = 1
    · rw [if_pos (by omega)]
      rw [h1] at hcm
      have hI2 : IB (w.setCell ⟨g, m, none⟩ (.int .i64 2)) g (ints (bump m u)) := by
        rw [ints_bump m u 2 (by rw [h1]; rfl)]; exact hI.set m 2
      have hc2 := (hI2.alloc (.cells #[.slice (some a) ns.length c, .slice A' ps.length c'] 33)).cell m (by rw [ints_len, Tr.bump_len]; omega)
      have hgd2 : (ints (bump m u))[m]'(by rw [ints_len, Tr.bump_len]; omega) = 2 := by
        have e := ints_bump m u 2 (by rw [h1]; rfl)
        simp only [e]; simp
      rw [hgd2] at hc2
      have HI2 := Lib.hid (hI2.alloc (.cells #[.slice (some a) ns.length c, .slice A' ps.length c'] 33))
      have HB2 : Hid (Bx g w ((w.setCell ⟨g, m, none⟩ (.int .i64 2)).alloc (.cells #[.slice (some a) ns.length c, .slice A' ps.length c'] 33))) := Lib.hid (((Bx.refl g w).set m _).alloc hgl _)
      clear hB hI hl hu hk ih hko hI2 hNA hgd hgd2 hbm hum h1 hT
      go_enter Tryd.func35, Tryd.ntmps35
      go_wp2_with fail
      all_goals
        go_ret
        exact ⟨rfl, HI2.out, HB2.out⟩
    · have h0 : u.getD m 0 = 0 := by omega
      rw [if_neg (by omega)]
      have hn : ns[m]? = some ns[m] := List.getElem?_eq_getElem hmn
      rw [hn]
      rw [h0] at hcm
      have hI2 : IB (w.setCell ⟨g, m, none⟩ (.int .i64 1)) g (ints (bump m u)) := by
        rw [ints_bump m u 1 (by rw [h0]; rfl)]; exact hI.set m 1
      have hc2 := (hI2.alloc (.cells #[.slice (some a) ns.length c, .slice A' ps.length c'] 33)).cell m (by rw [ints_len, Tr.bump_len]; omega)
      have hgd2 : (ints (bump m u))[m]'(by rw [ints_len, Tr.bump_len]; omega) = 1 := by
        have e := ints_bump m u 1 (by rw [h0]; rfl)
        simp only [e]; simp
      rw [hgd2] at hc2
      have hle : ∀ j, (bump m u).getD j 0 ≤ 1 := by
        intro j
        rw [Tr.bump_get (by omega)]
        by_cases hj : j = m
        · subst hj; rw [if_pos rfl]; omega
        · rw [if_neg hj]; have := hu j; omega
      have hbl : (bump m u).length = ns.length := (Tr.bump_len _ _).trans hl
      have hB1 : Below W0.heap.size W0 ((w.setCell ⟨g, m, none⟩ (.int .i64 1)).alloc (.cells #[.slice (some a) ns.length c, .slice A' ps.length c'] 33)) := (hB.setCell (by show W0.heap.size ≤ g; exact hg) _).alloc (by have := hB.size; simpa [World.setCell] using this) _
      obtain ⟨c0, c1, c2, c3, c4, c5, c6, c7, c8⟩ := hNA.below hB1 (by rw [add_block]; exact hab)
      generalize ns[m] = x at *
      have HI2 : Hid (IB (((w.setCell ⟨g, m, none⟩ (.int .i64 1)).alloc (.cells #[.slice (some a) ns.length c, .slice A' ps.length c'] 33)).alloc (.cells #[.int .u8 x.k, .int .u64 x.s.a, .int .u64 x.s.b, .int .u64 x.s.c, .int .u64 x.s.d, .int .i64 x.a, .int .i64 x.b, .int .i64 x.mn, .int .i64 x.mx] 27)) g (ints (bump m u))) := Lib.hid ((hI2.alloc _).alloc _)
      have HB2 : Hid (Bx g w (((w.setCell ⟨g, m, none⟩ (.int .i64 1)).alloc (.cells #[.slice (some a) ns.length c, .slice A' ps.length c'] 33)).alloc (.cells #[.int .u8 x.k, .int .u64 x.s.a, .int .u64 x.s.b, .int .u64 x.s.c, .int .u64 x.s.d, .int .i64 x.a, .int .i64 x.b, .int .i64 x.mn, .int .i64 x.mx] 27))) := Lib.hid ((((Bx.refl g w).set m _).alloc hgl _).alloc hgl _)
      have HBW : Hid (Below W0.heap.size W0 (((w.setCell ⟨g, m, none⟩ (.int .i64 1)).alloc (.cells #[.slice (some a) ns.length c, .slice A' ps.length c'] 33)).alloc (.cells #[.int .u8 x.k, .int .u64 x.s.a, .int .u64 x.s.b, .int .u64 x.s.c, .int .u64 x.s.d, .int .i64 x.a, .int .i64 x.b, .int .i64 x.mn, .int .i64 x.mx] 27))) := Lib.hid (hB1.alloc hB1.size _)
      have HSZ : Hid ((((w.setCell ⟨g, m, none⟩ (.int .i64 1)).alloc (.cells #[.slice (some a) ns.length c, .slice A' ps.length c'] 33)).alloc (.cells #[.int .u8 x.k, .int .u64 x.s.a, .int .u64 x.s.b, .int .u64 x.s.c, .int .u64 x.s.d, .int .i64 x.a, .int .i64 x.b, .int .i64 x.mn, .int .i64 x.mx] 27)).heap.size = w.heap.size + 2) := Lib.hid (by simp [World.setCell])
      have HZ : Hid ((((w.setCell ⟨g, m, none⟩ (.int .i64 1)).alloc (.cells #[.slice (some a) ns.length c, .slice A' ps.length c'] 33)).alloc (.cells #[.int .u8 x.k, .int .u64 x.s.a, .int .u64 x.s.b, .int .u64 x.s.c, .int .u64 x.s.d, .int .i64 x.a, .int .i64 x.b, .int .i64 x.mn, .int .i64 x.mx] 27)).cell? ⟨w.heap.size, 0, none⟩ = some (.slice (some a) ns.length c) ∧ (((w.setCell ⟨g, m, none⟩ (.int .i64 1)).alloc (.cells #[.slice (some a) ns.length c, .slice A' ps.length c'] 33)).alloc (.cells #[.int .u8 x.k, .int .u64 x.s.a, .int .u64 x.s.b, .int .u64 x.s.c, .int .u64 x.s.d, .int .i64 x.a, .int .i64 x.b, .int .i64 x.mn, .int .i64 x.mx] 27)).cell? ⟨w.heap.size, 1, none⟩ = some (.slice A' ps.length c') ∧ (((w.setCell ⟨g, m, none⟩ (.int .i64 1)).alloc (.cells #[.slice (some a) ns.length c, .slice A' ps.length c'] 33)).alloc (.cells #[.int .u8 x.k, .int .u64 x.s.a, .int .u64 x.s.b, .int .u64 x.s.c, .int .u64 x.s.d, .int .i64 x.a, .int .i64 x.b, .int .i64 x.mn, .int .i64 x.mx] 27)).cell? ⟨w.heap.size + 1, 6, none⟩ = some (.int .i64 x.b)) := by
        have e : (w.setCell ⟨g, m, none⟩ (.int .i64 1)).heap.size = w.heap.size := by simp [World.setCell]
        generalize w.setCell ⟨g, m, none⟩ (.int .i64 1) = z at e ⊢
        exact Lib.hid ⟨(blk_cell (blk_alloc (blk_new_at' z _ _ e) _) 0).trans rfl, (blk_cell (blk_alloc (blk_new_at' z _ _ e) _) 1).trans rfl, (blk_cell (blk_new_at' (z.alloc _) _ _ (by simp [e])) 6).trans rfl⟩
      simp only
      have HIH : Hid (∀ (k : Int) (u : List Nat) (w : World), Below W0.heap.size W0 w → IB w g (ints u) → u.length = ns.length → (∀ j, u.getD j 0 ≤ 1) → (k < (f : Int) ∨ (ns.length : Int) ≤ k) →
        Calls Tryd.prog 35 #[.agg #[.slice (some a) ns.length c, .slice A' ps.length c'], .int .i64 k, .slice (some ⟨g, 0, none⟩) ns.length ns.length] w fun e w' => e = .returned (.bool (dnF ns f k u).1) ∧ IB w' g (ints (dnF ns f k u).2) ∧ Bx g w w') := Lib.hid ih
      have HLE := Lib.hid (And.intro hle hbl)
      have hgl := hI.lt
      have d0 : decide ((m : Int) < 0) = false := decide_eq_false (by omega)
      have d1 : decide ((ns.length : Int) ≤ (m : Int)) = false := decide_eq_false (by omega)
      clear hB hI hl hu ih hko hI2 hNA hgd hgd2 hbm hum h1 hT hle hbl hB1 hn h0
      by_cases h34 : x.k = 3 ∨ x.k = 4
      · rw [if_pos h34]
        have t34 : ((x.k : Int) == 3) = true ∨ (((x.k : Int) == 3) = false ∧ ((x.k : Int) == 4) = true) := by
          rcases h34 with h | h
          · left; rw [h]; rfl
          · right; rw [h]; exact ⟨rfl, rfl⟩
        clear h34
        by_cases ha1 : x.a < (m : Int)
        · have da : decide (x.a < (m : Int)) = true := decide_eq_true ha1
          by_cases hb1 : x.b < (m : Int)
          · have db : decide (x.b < (m : Int)) = true := decide_eq_true hb1
            rw [if_pos ⟨ha1, hb1⟩]
            have ha2 : x.a < (f : Int) ∨ (ns.length : Int) ≤ x.a := by omega
            have hb2 : x.b < (f : Int) ∨ (ns.length : Int) ≤ x.b := by omega
            clear hk ha1 hb1
            have hA := HIH.out x.a (bump m u) _ HBW.out HI2.out HLE.out.2 HLE.out.1 ha2
            have hl1 := (Tr.dnF_len ns f x.a (bump m u)).trans HLE.out.2
            have hd1 := dnF_le f x.a (bump m u) HLE.out.2 HLE.out.1
            generalize dnF ns f x.a (bump m u) = R at hA hl1 hd1 ⊢
            obtain ⟨b1, u1⟩ := R
            have HA := Lib.hid hA
            have HL1 : Hid (u1.length = ns.length) := Lib.hid hl1
            clear hA hl1
            cases b1
            · rw [if_neg (by simp)]
              clear hd1
              rcases t34 with t3 | ⟨t3, t4⟩
              all_goals
                go_enter Tryd.func35, Tryd.ntmps35
                go_wp2_with fail
                refine (HA.out).mono ?_
                rintro e w1 ⟨rfl, I1, X1⟩
                have HX1 := Lib.hid (HB2.out.trans X1)
                have HI1 := Lib.hid I1
                clear I1 X1 c0 c1 c2 c3 c4 c5 c6 c7 c8 hcm hc2 hfm
                go_wp2_with fail
                go_ret
                exact ⟨rfl, HI1.out, HX1.out⟩
            · rw [if_pos rfl]
              have HD1 : Hid (∀ j, u1.getD j 0 ≤ 1) := Lib.hid (hd1 rfl)
              clear hd1
              rcases t34 with t3 | ⟨t3, t4⟩
              all_goals
                go_enter Tryd.func35, Tryd.ntmps35
                go_wp2_with fail
                refine (HA.out).mono ?_
                rintro e w1 ⟨rfl, I1, X1⟩
                have z0 := (X1.cell (p := ⟨w.heap.size, 0, none⟩) hgl (by have := HSZ.out; show w.heap.size < _; omega)).trans HZ.out.1
                have z1 := (X1.cell (p := ⟨w.heap.size, 1, none⟩) hgl (by have := HSZ.out; show w.heap.size < _; omega)).trans HZ.out.2.1
                have z2 := (X1.cell (p := ⟨w.heap.size + 1, 6, none⟩) (by show g < w.heap.size + 1; omega) (by have := HSZ.out; show w.heap.size + 1 < _; omega)).trans HZ.out.2.2
                have HX1 := Lib.hid (HB2.out.trans X1)
                have HBW1 := Lib.hid (HBW.out.trans (X1.1.mono hg))
                have HI1 := Lib.hid I1
                clear I1 X1 c0 c1 c2 c3 c4 c5 c6 c7 c8 hcm hc2 hfm
                go_wp2_with fail
                refine (HIH.out x.b u1 _ HBW1.out HI1.out HL1.out HD1.out hb2).mono ?_
                rintro e w2 ⟨rfl, I2, X2⟩
                have HX2 := Lib.hid (HX1.out.trans X2)
                have HI3 := Lib.hid I2
                clear I2 X2 z0 z1 z2
                go_wp2_with fail
                go_ret
                exact ⟨by simp, HI3.out, HX2.out⟩
          · have db : decide (x.b < (m : Int)) = false := decide_eq_false hb1
            rw [if_neg (fun h => hb1 h.2)]
            clear hk ha1 hb1
            rcases t34 with t3 | ⟨t3, t4⟩
            all_goals
              go_enter Tryd.func35, Tryd.ntmps35
              go_wp2_with fail
              go_ret
              exact ⟨rfl, HI2.out, HB2.out⟩
        · have da : decide (x.a < (m : Int)) = false := decide_eq_false ha1
          rw [if_neg (fun h => ha1 h.1)]
          clear hk ha1
          rcases t34 with t3 | ⟨t3, t4⟩
          all_goals
            go_enter Tryd.func35, Tryd.ntmps35
            go_wp2_with fail
            go_ret
            exact ⟨rfl, HI2.out, HB2.out⟩
      · rw [if_neg h34]
        have t3 : ((x.k : Int) == 3) = false := beq_f (by omega)
        have t4 : ((x.k : Int) == 4) = false := beq_f (by omega)
        by_cases h5 : x.k = 5
        · rw [if_pos h5]
          have t5 : ((x.k : Int) == 5) = true := by rw [h5]; rfl
          clear h34 h5
          by_cases ha1 : x.a < (m : Int)
          · have da : decide (x.a < (m : Int)) = true := decide_eq_true ha1
            rw [if_pos ha1]
            have ha2 : x.a < (f : Int) ∨ (ns.length : Int) ≤ x.a := by omega
            clear hk ha1
            go_enter Tryd.func35, Tryd.ntmps35
            go_wp2_with fail
            refine (HIH.out x.a (bump m u) _ HBW.out HI2.out HLE.out.2 HLE.out.1 ha2).mono ?_
            rintro e w1 ⟨rfl, I1, X1⟩
            have HX1 := Lib.hid (HB2.out.trans X1)
            have HI1 := Lib.hid I1
            clear I1 X1 c0 c1 c2 c3 c4 c5 c6 c7 c8 hcm hc2 hfm
            go_wp2_with fail
            go_ret
            exact ⟨by simp, HI1.out, HX1.out⟩
          · have da : decide (x.a < (m : Int)) = false := decide_eq_false ha1
            rw [if_neg ha1]
            clear hk ha1
            go_enter Tryd.func35, Tryd.ntmps35
            go_wp2_with fail
            go_ret
            exact ⟨rfl, HI2.out, HB2.out⟩
        · rw [if_neg h5]
          have t5 : ((x.k : Int) == 5) = false := beq_f (by omega)
          clear hk h34 h5
          go_enter Tryd.func35, Tryd.ntmps35
          go_wp2_with fail
          go_ret
          exact ⟨rfl, HI2.out, HB2.out⟩
end Go.Proofs.YtebkaajnnjfhjaaDoor
