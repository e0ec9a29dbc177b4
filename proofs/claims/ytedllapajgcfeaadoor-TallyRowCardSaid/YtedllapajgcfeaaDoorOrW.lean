/-
  TallyOrder: walked.
-/
import Derived.Test.YtedllapajgcfeaaDoorRs5
import Derived.Test.YtedllapajgcfeaaDoorAwk5
namespace Go.Proofs.YtedllapajgcfeaaDoor
set_option linter.unusedVariables false
set_option linter.unusedSimpArgs false
open Go.RowKit Go.Proofs.YtedllapajgcfeaaDoorW.PrintWords

theorem ArgF.below {w z : World} {A : Option Addr} {l : List Nat} (h : ArgF w A l) (hb : Below w.heap.size w z) : ArgF z A l := fun hl => by
  obtain ⟨ad, e, hc⟩ := h hl
  exact ⟨ad, e, fun y hy => hc y (bthen hb hy)⟩
set_option maxRecDepth 100000 in
set_option maxHeartbeats 6400000 in
theorem tsort_zero (A : Option Addr) (c : Nat) (w : World) : Calls Tryd.prog 10 #[.slice A 0 c] w (SortOut [] w) := by
  have hmk := make_fl 0 (by omega)
  simp only [Int.natCast_zero] at hmk
  have hR : RowF [] (w.alloc (.cells (madeCells #[.float .f64 0] 0) 24)) w.heap.size [] := by
    unfold RowF
    rw [show (fl ([] : List Nat) ++ ([] : List Value)).toArray = madeCells #[Value.float .f64 0] 0 by simp [fl, madeCells]]
    exact blk_new w _
  have HS := Lib.hid (sort_any [] w.heap.size 0 [] (by decide) (fun x hx => by cases hx) _ hR)
  clear hR
  go_enter Tryd.func10, Tryd.ntmps10
  go_wp2_with fail
  go_loopw [3, 11] (fun v iv wr => v = .slice (some ⟨w.heap.size, 0, none⟩) 0 0 ∧ iv = .int .i64 0 ∧ w.alloc (.cells (madeCells #[.float .f64 0] 0) 24) = wr) (fun _ _ _ => 0)
  case atStart => exact ⟨rfl, rfl, rfl⟩
  case round =>
    obtain ⟨rfl, rfl, rfl⟩ := hrel
    go_wp2_with fail
    refine HS.out.mono ?_
    rintro e w2 ⟨rfl, HR, HX⟩
    have HR := Lib.hid HR
    have HX := Lib.hid HX
    go_wp2_with fail
    go_ret
    exact ⟨w.heap.size, 0, _, [], rfl, HR.out, List.Perm.refl _, So.nil _ _ _ (by decide), Nat.le_refl _, Nat.le_refl _, ((Below.refl _ _).alloc (Nat.le_refl _) _).trans HX.out.1⟩
/-- Sort of any at most a thousand numbers. -/
theorem tsort_all (A : Option Addr) (c : Nat) (l : List Nat) (hl : l.length ≤ 1000) (h64 : Fin64 l) (w : World) (hA : ArgF w A l) : Calls Tryd.prog 10 #[.slice A l.length c] w (SortOut l w) := by
  cases l with
  | nil => exact tsort_zero A c w
  | cons x l =>
    obtain ⟨ad, rfl, hc⟩ := hA (by simp)
    exact tsort_gen ad c (x :: l) (by simp) hl h64 w hc
theorem rk_canon (x : Nat) : rk (canon x) = rk x := by
  unfold canon
  cases h : nanB x
  · rfl
  · rw [if_pos rfl, rk_nan h]; decide +kernel
theorem SortOut.ranks {l M : List Nat} (hp : M.Perm (canonL l)) (hs : So 0 l.length M) (hl : M.length = l.length) {M2 : List Nat} (hp2 : M2.Perm l) (hs2 : M2.Pairwise Rle) : M.map rk = M2.map rk := by
  refine so_unique (so_pairwise (by rw [hl]; exact hs)) ?_ ?_
  · rw [List.pairwise_map]; exact hs2
  · have h1 := hp.map rk
    have h2 : (canonL l).map rk = l.map rk := by
      unfold canonL
      rw [List.map_map]
      exact List.map_congr_left fun x _ => rk_canon x
    rw [h2] at h1
    exact h1.trans (hp2.map rk).symm
set_option maxRecDepth 100000 in
set_option maxHeartbeats 6400000 in
theorem order_any (a b : Nat) (ha : a < 18446744073709551616) (hb : b < 18446744073709551616) (A : Option Addr) (c : Nat) (l : List Nat) (h64 : Fin64 l) (w : World) (hA : ArgF w A l) (hT : Tb w) :
    Calls Tryd.prog 4 #[.float .f64 a, .float .f64 b, .slice A l.length c] w fun e w' => e = .returned (.bool true) ∧ Below w.heap.size w w' := by
  have HT := Lib.hid hT
  have HA := Lib.hid hA
  clear hT hA
  by_cases hl : 200 < l.length
  · have t1 : decide ((200 : Int) < (l.length : Int)) = true := decide_eq_true (by omega)
    clear hl
    go_enter Tryd.func4, Tryd.ntmps4
    go_wp2_with fail
    refine (awake5_any _ HT.out).mono ?_
    rintro e w1 ⟨rfl, B1⟩
    have HB := Lib.hid B1
    clear B1
    go_wp2_with fail
    go_ret
    exact ⟨rfl, HB.out⟩
  · have t1 : decide ((200 : Int) < (l.length : Int)) = false := decide_eq_false (by omega)
    have hl2 : l.length ≤ 200 := by omega
    have HC := Lib.hid (compare_any a b ha hb)
    have HR := Lib.hid (rcmp_any a b ha hb)
    generalize cp a b = cc at HC HR
    clear hl ha hb
    go_enter Tryd.func4, Tryd.ntmps4
    go_wp2_with fail
    refine (HC.out _).mono ?_
    rintro e w1 ⟨rfl, B1⟩
    have HB := Lib.hid B1
    clear B1
    go_wp2_with fail
    refine (HR.out _).mono ?_
    rintro e w2 ⟨rfl, rfl⟩
    have tc : (cc != cc) = false := by simp
    go_wp2_with fail
    refine (tsort_all A c l (by omega) h64 _ (HA.out.below HB.out)).mono ?_
    rintro e w3 ⟨g, cap, T, M, rfl, hM, hMp, hMs, hg, hcap, B3⟩
    have hMl : M.length = l.length := hMp.length_eq.trans (canonL_len l)
    have HM := Lib.hid (And.intro hM (And.intro hMp (And.intro hMs hMl)))
    have HB3 := Lib.hid (bthen HB.out B3)
    clear hM hMp hMs hg B3 hMl HB
    go_wp2_with fail
    refine (rsort_any A c l (by omega) h64 _ (HA.out.below HB3.out)).mono ?_
    rintro e w4 ⟨v, M2, rfl, hO, hp2, hs2, B4⟩
    obtain ⟨A2, c2, rfl, hR2⟩ := own_reads_of (enc := Value.float .f64) (d := 0) hO
    have HM2 := Lib.hid hR2
    have HE := Lib.hid (SortOut.ranks HM.out.2.1 HM.out.2.2.1 HM.out.2.2.2 hp2 hs2)
    have H64 : Hid (Fin64 M ∧ Fin64 M2) := Lib.hid ⟨(canon64 h64).perm HM.out.2.1, h64.perm hp2⟩
    have HM4 : Hid (RowF T w4 g M) := Lib.hid (HM.out.1.below B4)
    have HL : Hid (M.length = l.length ∧ M2.length = l.length) := Lib.hid ⟨HM.out.2.2.2, hR2.1⟩
    have HB4 := Lib.hid (bthen HB3.out B4)
    obtain ⟨w5, hw5⟩ : ∃ w5 : World, w5 = w4 := ⟨_, rfl⟩
    subst hw5
    clear hO hp2 hs2 B4 hR2 HM HB3
    have tn : ((l.length : Int) != (l.length : Int)) = false := by simp
    go_wp2_with fail
    go_loopw [9] (fun iv wr => ∃ k : Nat, iv = .int .i64 k ∧ k ≤ l.length ∧ Below w5.heap.size w5 wr) (fun iv _ => l.length - (RowKit.intOf iv).toNat)
    case atStart => exact ⟨0, rfl, Nat.zero_le _, Below.refl _ _⟩
    case round =>
      obtain ⟨k, rfl, hk, hBr⟩ := hrel
      obtain ⟨W0, hW0, HBr⟩ : ∃ z, z = _ ∧ Below w5.heap.size w5 z := ⟨_, rfl, hBr⟩
      subst hW0
      by_cases hlt : k < l.length
      · have i1 : (k : Int) < l.length := by omega
        have i2 : (0 : Int) ≤ (k : Int) := by omega
        have wk : IntKind.i64.wrap ((k : Int) + 1) = (k : Int) + 1 := IntWalk.i64_in _ (by omega)
        obtain ⟨ad2, rfl, hc2⟩ := HM2.out.2.2 (by omega)
        have HCZ : Hid (∀ z, Below W0.heap.size W0 z → z.cell? ⟨g, k, none⟩ = some (.float .f64 (M.getD k 0)) ∧ z.cell? (ad2.add k) = some (.float .f64 (M2.getD k 0))) := Lib.hid (fun z hz => ⟨(HM4.out.below (bthen HBr hz)).cell k (by rw [HL.out.1]; exact hlt), pw_cell_below (bthen HBr hz) (hc2 k hlt)⟩)
        obtain ⟨ca, cb⟩ := HCZ.out _ (Below.refl _ _)
        have HAL := Lib.hid (alike_any (M.getD k 0) (M2.getD k 0) (H64.out.1.getD k) (H64.out.2.getD k))
        have he : decide (rk (M.getD k 0) = rk (M2.getD k 0)) = true := by
          refine decide_eq_true ?_
          have h1 := congrArg (·[k]?) HE.out
          have e1 : M.getD k 0 = M[k]'(by rw [HL.out.1]; exact hlt) := by rw [List.getD_eq_getElem?_getD, List.getElem?_eq_getElem (by rw [HL.out.1]; exact hlt)]; rfl
          have e2 : M2.getD k 0 = M2[k]'(by rw [HL.out.2]; exact hlt) := by rw [List.getD_eq_getElem?_getD, List.getElem?_eq_getElem (by rw [HL.out.2]; exact hlt)]; rfl
          rw [e1, e2]
          simp only [List.getElem?_map, List.getElem?_eq_getElem (show k < M.length by rw [HL.out.1]; exact hlt), List.getElem?_eq_getElem (show k < M2.length by rw [HL.out.2]; exact hlt), Option.map_some, Option.some.injEq] at h1
          exact h1
        rw [he] at HAL
        have HBH := Lib.hid HBr
        clear hc2 he hBr HBr
        generalize M.getD k 0 = x at *
        generalize M2.getD k 0 = y at *
        go_wp2_with fail
        go_region_held3 (fun z => Below W0.heap.size W0 z ∧ z.cell? ⟨g, k, none⟩ = some (.float .f64 x) ∧ z.cell? (ad2.add k) = some (.float .f64 y)) ((refine ⟨?_, HCZ.out _ ?_⟩ <;> (repeat (first | (with_reducible exact Below.refl _ _) | (with_reducible refine Below.drew ?_) | (with_reducible refine bl_drewN ?_ _) | ((with_reducible apply bthen); rotate_left; assumption))))) ((go_at_call 16; (with_reducible refine (HAL.out _).mono ?_); rintro e w3 ⟨rfl, rfl⟩))
        all_goals
          go_wp2_with fail
          have hS := ‹Below W0.heap.size W0 _ ∧ _›
          exact ⟨⟨k + 1, by go_num, by omega, bthen HBH.out hS.1⟩, by simp [RowKit.intOf] <;> omega⟩
      · have t2 : decide ((k : Int) < (l.length : Int)) = false := decide_eq_false (by omega)
        have HBH := Lib.hid (bthen HB4.out HBr)
        clear hBr HBr
        go_wp2_with fail
        refine (awake5_any _ (HT.out.below HBH.out)).mono ?_
        rintro e w6 ⟨rfl, B6⟩
        have HB := Lib.hid (bthen HBH.out B6)
        clear B6
        go_wp2_with fail
        go_ret
        exact ⟨rfl, HB.out⟩
end Go.Proofs.YtedllapajgcfeaaDoor
