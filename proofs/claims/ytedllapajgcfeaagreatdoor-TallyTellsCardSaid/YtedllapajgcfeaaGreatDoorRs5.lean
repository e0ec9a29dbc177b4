/-
  The document's Sort of floats: walked.
-/
import Derived.Test.YtedllapajgcfeaaGreatDoorRf5
import Derived.Test.YtedllapajgcfeaaGreatDoorSr2
namespace Go.Proofs.YtedllapajgcfeaaGreatDoor
set_option linter.unusedVariables false
set_option linter.unusedSimpArgs false
open Go.RowKit Go.Proofs.YtedllapajgcfeaaGreatDoorW.PrintWords

def Rle (a b : Nat) : Prop := rk a ≤ rk b
theorem ins_sorted {R : List Nat} {x j : Nat} (h : R.Pairwise Rle) (hj : j ≤ R.length) (hi : ∀ p, j ≤ p → p < R.length → rk x < rk (R.getD p 0)) (hl : j = 0 ∨ rk (R.getD (j - 1) 0) ≤ rk x) : (R.take j ++ [x] ++ R.drop j).Pairwise Rle := by
  have hs : ∀ p q (hp : p < R.length) (hq : q < R.length), p < q → rk R[p] ≤ rk R[q] := fun p q hp hq hpq => (List.pairwise_iff_getElem.1 h) p q hp hq hpq
  have ge : ∀ p (hp : p < R.length), R.getD p 0 = R[p] := fun p hp => by rw [List.getD_eq_getElem?_getD, List.getElem?_eq_getElem hp]; rfl
  rw [List.append_assoc, List.pairwise_append]
  refine ⟨h.sublist (List.take_sublist _ _), ?_, ?_⟩
  · show (x :: R.drop j).Pairwise Rle
    rw [List.pairwise_cons]
    refine ⟨fun b hb => ?_, h.sublist (List.drop_sublist _ _)⟩
    obtain ⟨i, hi', rfl⟩ := List.getElem_of_mem hb
    rw [List.length_drop] at hi'
    rw [List.getElem_drop]
    have := hi (j + i) (by omega) (by omega)
    rw [ge _ (by omega)] at this
    exact Int.le_of_lt this
  · intro a ha b hb
    obtain ⟨i, hi', rfl⟩ := List.getElem_of_mem ha
    rw [List.length_take] at hi'
    rw [List.getElem_take]
    have h1 : rk R[i] ≤ rk x := by
      rcases hl with h0 | h0
      · omega
      · rw [ge _ (by omega)] at h0
        by_cases e : i = j - 1
        · subst e; exact h0
        · exact Int.le_trans (hs i (j - 1) (by omega) (by omega) (by omega)) h0
    rcases List.mem_cons.1 (show b ∈ x :: R.drop j from hb) with e | hb
    · rw [e]; exact h1
    · obtain ⟨i2, hi2, rfl⟩ := List.getElem_of_mem hb
      rw [List.length_drop] at hi2
      rw [List.getElem_drop]
      have := hi (j + i2) (by omega) (by omega)
      rw [ge _ (by omega)] at this
      exact Int.le_trans h1 (Int.le_of_lt this)
theorem ins_perm {R l : List Nat} {k j : Nat} (h : R.Perm (l.take k)) (hk : k < l.length) : (R.take j ++ [l.getD k 0] ++ R.drop j).Perm (l.take (k + 1)) := by
  rw [List.take_succ_eq_append_getElem hk]
  have e : l.getD k 0 = l[k] := by rw [List.getD_eq_getElem?_getD, List.getElem?_eq_getElem hk]; rfl
  rw [e]
  have h1 : (R.take j ++ [l[k]] ++ R.drop j).Perm ((R.take j ++ R.drop j) ++ [l[k]]) := by
    rw [List.append_assoc, List.append_assoc]
    exact List.Perm.append_left _ (List.perm_append_comm)
  rw [List.take_append_drop] at h1
  exact h1.trans (h.append_right _)
theorem ins_len {R : List Nat} {x j : Nat} (hj : j ≤ R.length) : (R.take j ++ [x] ++ R.drop j).length = R.length + 1 := by
  simp [List.length_append, List.length_take, List.length_drop]; omega
/-- Numbers that an argument reads as, from here on. -/
def ArgF (w : World) (A : Option Addr) (l : List Nat) : Prop := 0 < l.length → ∃ ad, A = some ad ∧ ∀ z, Below w.heap.size w z → ∀ k, k < l.length → z.cell? (ad.add k) = some (.float .f64 (l.getD k 0))
theorem fl_encs (l : List Nat) : fl l = encs (Value.float .f64) l := rfl
theorem below_ext {w wr : World} {z : World} (h : Below w.heap.size w wr) (k : Below wr.heap.size wr z) : Below w.heap.size w z := bthen h k
/-- What the document's Sort hands back. -/
def RsOut (l : List Nat) (w : World) (e : Ending) (w' : World) : Prop := ∃ (v : Value) (M : List Nat), e = .returned v ∧ w'.ownsRow w.heap.size 22 1 v l.length (fl M) ∧ M.Perm l ∧ M.Pairwise Rle ∧ Below w.heap.size w w'
set_option maxRecDepth 100000 in
set_option maxHeartbeats 12800000 in
theorem rsort_any (A : Option Addr) (c : Nat) (l : List Nat) (hl : l.length ≤ 1000) (h64 : Fin64 l) (w : World) (hA : ArgF w A l) :
    Calls Tryz.prog 29 #[.slice A l.length c] w (RsOut l w) := by
  have HA := Lib.hid hA
  clear hA
  go_enter Tryz.func29, Tryz.ntmps29
  go_wp2_with fail
  go_loopw [3, 4] (fun vv iv wr => ∃ (k : Nat) (v : Value) (R : List Nat), v = vv ∧ k ≤ l.length ∧ iv = .int .i64 k ∧ Hid (wr.ownsRow w.heap.size 22 1 v k (fl R) ∧ R.Perm (l.take k) ∧ R.Pairwise Rle) ∧ Below w.heap.size w wr) (fun _ iv _ => l.length - (RowKit.intOf iv).toNat)
  case atStart => exact ⟨0, _, [], rfl, by omega, rfl, Lib.hid ⟨own_nil _ _ _ _, List.Perm.refl _, List.Pairwise.nil⟩, Below.refl _ _⟩
  case round =>
    obtain ⟨k, v, R, rfl, hk, rfl, HO, HB⟩ := hrel
    have hRk : R.length = k := by have := HO.out.2.1.length_eq; rw [List.length_take] at this; omega
    by_cases hlt : k < l.length
    · have i1 : (k : Int) < l.length := by omega
      have wk : IntKind.i64.wrap ((k : Int) + 1) = (k : Int) + 1 := IntWalk.i64_in _ (by omega)
      obtain ⟨A2, c2, rfl, HRD⟩ := own_reads_of (enc := Value.float .f64) (d := 0) HO.out.1
      have hcap : k ≤ c2 := own_le HO.out.1
      have HRk := Lib.hid hRk
      obtain ⟨ad, rfl, HC⟩ := HA.out (by omega)
      have HCK : Hid (∀ z, Below w.heap.size w z → z.cell? (ad.add k) = some (.float .f64 (l.getD k 0))) := Lib.hid fun z hz => HC z hz k hlt
      have hx64 := h64.getD k
      have HR64 : Hid (Fin64 R) := Lib.hid (fun y hy => h64 y (List.mem_of_mem_take (HO.out.2.1.mem_iff.1 hy)))
      generalize hxx : l.getD k 0 = x at HCK hx64
      have HX := Lib.hid hxx
      have HRDH := Lib.hid HRD
      have HBH := Lib.hid HB
      have HX64 := Lib.hid hx64
      clear HC hxx HRD HB hRk hx64
      obtain ⟨wo, hwo⟩ : ∃ wo : World, wo = wr := ⟨_, rfl⟩
      subst hwo
      go_wp2_with fail
      go_loopw [5] (fun jv wz => ∃ j : Nat, jv = .int .i64 j ∧ j ≤ k ∧ Hid (∀ p, j ≤ p → p < k → rk x < rk (R.getD p 0)) ∧ Below wo.heap.size wo wz) (fun jv _ => (RowKit.intOf jv).toNat)
      case atStart => exact ⟨k, rfl, Nat.le_refl _, Lib.hid (fun p h1 h2 => by omega), Below.refl _ _⟩
      case round =>
        obtain ⟨j, rfl, hjk, HP, HBz⟩ := hrel
        obtain ⟨W1, hW1, HB1⟩ : ∃ z, z = _ ∧ Below wo.heap.size wo z := ⟨_, rfl, HBz⟩
        subst hW1
        have HBzH := Lib.hid HBz
        clear HBz
        go_upto_region 6 with (fail)
        go_cut [29] (fun tv wx => ∃ t : Bool, tv = .bool t ∧ Hid (Below wo.heap.size wo wx ∧ (t = true → 0 < j ∧ rk x < rk (R.getD (j - 1) 0)) ∧ (t = false → j = 0 ∨ rk (R.getD (j - 1) 0) ≤ rk x)))
        case first =>
          by_cases hj0 : j = 0
          · subst hj0
            go_quiet (fail)
            go_wp2
            go_meet
            case rel => exact ⟨false, rfl, Lib.hid ⟨bl_drewN HBzH.out _, fun h => Bool.noConfusion h, fun _ => Or.inl (by first | trivial | rfl)⟩⟩
          · obtain ⟨m, rfl⟩ : ∃ m, j = m + 1 := ⟨j - 1, by omega⟩
            have hmk : m < k := by omega
            obtain ⟨ad2, rfl, HC2⟩ := HRDH.out.2.2 (by omega)
            have HCZ : Hid (∀ z, Below W1.heap.size W1 z → z.cell? (ad2.add m) = some (.float .f64 (R.getD m 0)) ∧ z.cell? (ad.add k) = some (.float .f64 x)) := Lib.hid (fun z hz => ⟨pw_cell_below (bthen HBzH.out hz) (HC2 m hmk), HCK.out z (bthen HBH.out (bthen HBzH.out hz))⟩)
            obtain ⟨ca, cb⟩ := HCZ.out _ (Below.refl _ _)
            have i2 : (m : Int) < k := by omega
            have i3 : (0 : Int) ≤ (m : Int) := by omega
            have i4 : (0 : Int) ≤ (k : Int) := by omega
            have t2 : decide ((0 : Int) < (m : Int) + 1) = true := decide_eq_true (by omega)
            have wm : IntKind.i64.wrap (m : Int) = (m : Int) := IntWalk.i64_in _ (by omega)
            have wm1 : IntKind.i64.wrap ((m : Int) + 1) = (m : Int) + 1 := IntWalk.i64_in _ (by omega)
            have HCMP := Lib.hid (rcmp_any (R.getD m 0) x (HR64.out.getD m) HX64.out)
            have HZ := Lib.hid (cp_zero (R.getD m 0) x).2
            have em : Hid (m + 1 - 1 = m) := Lib.hid (by omega)
            clear HC2
            generalize hyy : R.getD m 0 = y at ca HCZ HCMP HZ
            have HYY := Lib.hid hyy
            clear hyy
            generalize cp y x = cc at HCMP HZ
            go_region_held3 (fun z => Below W1.heap.size W1 z ∧ z.cell? (ad2.add m) = some (.float .f64 y) ∧ z.cell? (ad.add k) = some (.float .f64 x)) ((refine ⟨?_, HCZ.out _ ?_⟩ <;> (repeat (first | (with_reducible exact Below.refl _ _) | (with_reducible refine Below.drew ?_) | (with_reducible refine bl_drewN ?_ _) | ((with_reducible apply bthen); rotate_left; assumption))))) ((go_at_call 31; (with_reducible refine (HCMP.out _).mono ?_); rintro e w3 ⟨rfl, rfl⟩))
            all_goals
              go_wp2
              have hS := ‹Below W1.heap.size W1 _ ∧ _›
              go_meet
              case rel =>
                have hz := HZ.out
                have hB := bthen HBzH.out hS.1
                exact ⟨decide (0 < cc), rfl, Lib.hid ⟨hB, fun h => ⟨Nat.succ_pos _, show rk x < rk (R.getD m 0) by rw [HYY.out]; exact hz.1 (of_decide_eq_true h)⟩, fun h => Or.inr (show rk (R.getD m 0) ≤ rk x by rw [HYY.out]; have h1 := of_decide_eq_false h; have h2 := fun h' => h1 (hz.2 h'); omega)⟩⟩
        clear HB1
        obtain ⟨t, rfl, HT⟩ := hcut
        cases t
        rotate_left
        · obtain ⟨hj0, hjx⟩ := HT.out.2.1 rfl
          obtain ⟨m, rfl⟩ : ∃ m, j = m + 1 := ⟨j - 1, by omega⟩
          have wm : IntKind.i64.wrap (m : Int) = (m : Int) := IntWalk.i64_in _ (by omega)
          have HJX := Lib.hid hjx
          clear hjx
          go_wp2_with fail
          go_roundw
          case rel => exact ⟨m, rfl, by omega, Lib.hid (fun p h1 h2 => by
            by_cases e : p = m
            · subst e; exact HJX.out
            · exact HP.out p (by omega) h2), HT.out.1⟩
          case measure => simp [RowKit.intOf] <;> omega
        have HJ := Lib.hid (HT.out.2.2 rfl)
        have HBC := Lib.hid (bthen HBH.out HT.out.1)
        have hj1 : (j : Int) ≤ (k : Int) := by omega
        have hj2 : (j : Int) ≤ (c2 : Int) := by omega
        have hj3 : (0 : Int) ≤ (j : Int) := by omega
        have HE : Hid ((wc.alloc (.cells #[] 22)).ownsRow wc.heap.size 22 1 (.slice (some ⟨wc.heap.size, 0, none⟩) 0 0) ([] : List Nat).length (encs (Value.float .f64) [])) := Lib.hid (own_lit_of (enc := Value.float .f64) wc _ _ [] (Nat.le_refl _) (by decide))
        have HB1 : Hid (Below wc.heap.size wc (wc.alloc (.cells #[] 22))) := Lib.hid ((Below.refl _ _).alloc (Nat.le_refl _) _)
        have HRC : Hid (ReadsOf (Value.float .f64) 0 wc A2 k R) := Lib.hid (HRDH.out.below HT.out.1)
        have HR1 : Hid (ReadsOf (Value.float .f64) 0 (wc.alloc (.cells #[] 22)) A2 j (R.take j)) := Lib.hid ((HRC.out.below HB1.out).take_ j hjk)
        have hzz : wc.heap.size ≤ (wc.alloc (.cells #[] 22)).heap.size := HB1.out.size
        have HZZ := Lib.hid hzz
        obtain ⟨i0, hi0, hi1⟩ : ∃ i0, Tryz.prog.info? 22 = some i0 ∧ i0.size = 1 := by
          obtain ⟨i0, h, h'⟩ := Option.map_eq_some_iff.1 (show (Tryz.prog.info? 22).map (·.size) = some 1 by kernel_rfl)
          exact ⟨i0, h, h'⟩
        obtain ⟨A3, hcutr, hreads⟩ := print_cut_of (Value.float .f64) 0 32 22 .i64 Tryz.underlying32 hi0 hi1 A2 k c2 j hjk
        have HRDS := Lib.hid hreads
        obtain ⟨kj, hkj⟩ : ∃ kj, k - j = kj := ⟨_, rfl⟩
        rw [hkj] at hcutr
        have HKJ := Lib.hid hkj
        clear HT hzz hi0 hi1 hreads hkj
        go_upto_region 9 with (at_builtin; refine print_append_row_of (w0 := wc) (Value.float .f64) 0 wc.heap.size rfl _ _ 32 22 (.float .f64 0) 8 rfl Tryz.underlying32 (by kernel_rfl) rfl (by omega) (fun _ => rfl) (.slice (some ⟨wc.heap.size, 0, none⟩) 0 0) [] (R.take j) A2 j c2 rfl rfl (by exact HE.out) (by exact HR1.out) (by exact HB1.out) (by exact HZZ.out) (by simp; omega) ?_; intro v1 w1 HO1 HBA hg1 hat1; replace HO1 := Lib.hid HO1; replace HBA := Lib.hid HBA; clear hg1 hat1)
        have hck := HCK.out w1 (bthen HBC.out HBA.out)
        have i4 : (0 : Int) ≤ (k : Int) := by omega
        have HS1 := Lib.hid HBA.out.size
        go_upto_region 10 with (at_builtin; refine print_append_of (w0 := wc) (Value.float .f64) wc.heap.size rfl _ _ 32 22 (.float .f64 0) 8 rfl Tryz.underlying32 (by kernel_rfl) rfl (by omega) v1 ([] ++ R.take j) x rfl rfl rfl (by exact HO1.out) (by exact HBA.out) (by exact HS1.out) (by simp; omega) ?_; intro v2 w2 HO2 HBB hg1 hat1; replace HO2 := Lib.hid HO2; replace HBB := Lib.hid HBB; clear hg1 hat1)
        have HR3 : Hid (ReadsOf (Value.float .f64) 0 w2 A3 kj (R.drop j)) := Lib.hid (by rw [← HKJ.out]; exact HRDS.out w2 R hcap (HRC.out.below HBB.out))
        have HS2 := Lib.hid HBB.out.size
        have hkjl : kj ≤ 1000 := by have := HKJ.out; omega
        go_wp2_with (at_builtin; refine print_append_row_of (w0 := wc) (Value.float .f64) 0 wc.heap.size rfl _ _ 32 22 (.float .f64 0) 8 rfl Tryz.underlying32 (by kernel_rfl) rfl (by omega) (fun _ => rfl) v2 ([] ++ R.take j ++ [x]) (R.drop j) A3 kj (c2 - j) rfl rfl (by exact HO2.out) (by exact HR3.out) (by exact HBB.out) (by exact HS2.out) (by simp; omega) ?_; intro v3 w3 HO3 HBD hg1 hat1; replace HO3 := Lib.hid HO3; replace HBD := Lib.hid HBD; clear hg1 hat1)
        go_roundw
        case rel =>
          refine ⟨k + 1, v3, R.take j ++ [x] ++ R.drop j, rfl, by omega, by go_num, Lib.hid ⟨?_, ?_, ?_⟩, bthen HBC.out HBD.out⟩
          · have h := own_weaken HO3.out HBC.out.size
            rw [List.nil_append, ins_len (by rw [HRk.out]; exact hjk), HRk.out] at h
            exact h
          · rw [← HX.out]; exact ins_perm HO.out.2.1 hlt
          · exact ins_sorted HO.out.2.2 (by rw [HRk.out]; exact hjk) (fun p h1 h2 => HP.out p h1 (by rw [HRk.out] at h2; exact h2)) HJ.out
        case measure => simp [RowKit.intOf] <;> omega
    · have hke : k = l.length := by omega
      subst hke
      have HFIN : Hid (RsOut l w (.returned v) wr) := Lib.hid ⟨v, R, rfl, HO.out.1, by have := HO.out.2.1; rw [List.take_length] at this; exact this, HO.out.2.2, HB⟩
      clear HO HB
      go_wp2_with fail
      go_ret
      exact HFIN.out
end Go.Proofs.YtedllapajgcfeaaGreatDoor
