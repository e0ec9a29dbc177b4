/-
  slices.DeleteFunc by tally.odd, of any row: walked.
-/
import Derived.Test.YtedllapajgcfeaaGreatDoorOf0
import Derived.Test.YtedllapajgcfeaaGreatDoorPm
namespace Go.Proofs.YtedllapajgcfeaaGreatDoor
set_option linter.unusedVariables false
set_option linter.unusedSimpArgs false
open Go.RowKit Go.Proofs.YtedllapajgcfeaaGreatDoorW.PrintWords

theorem odd_ok (x : Nat) (h : x < 18446744073709551616) : OddOk x := by
  unfold OddOk
  have h1 : (~~~ BitVec.ofInt 64 9223372036854775808).toNat = 2 ^ 63 - 1 := by decide
  have key : (BitVec.ofInt 64 (x : Int) &&& ~~~ BitVec.ofInt 64 9223372036854775808).toNat = x % 2 ^ 63 := by
    rw [BitVec.toNat_and, BitVec.toNat_ofInt, h1, Nat.and_two_pow_sub_one_eq_mod]
    have : ((x : Int) % ((2 ^ 64 : Nat) : Int)).toNat = x := by omega
    rw [this]
  show IntKind.u64.wrap ((BitVec.ofInt 64 (x : Int) &&& ~~~ BitVec.ofInt 64 9223372036854775808).toNat : Nat) = _
  rw [key, IntKind.wrap_u64]
  omega
def keepL (L : List Nat) : List Nat := L.filter (fun x => !oddB x)
theorem keep_take (L : List Nat) (k : Nat) (h : k < L.length) : keepL (L.take (k + 1)) = keepL (L.take k) ++ (if oddB (L.getD k 0) then [] else [L.getD k 0]) := by
  unfold keepL
  rw [List.take_succ_eq_append_getElem h, List.filter_append]
  have e : L.getD k 0 = L[k] := by rw [List.getD_eq_getElem?_getD, List.getElem?_eq_getElem h]; rfl
  rw [e]
  cases hb : oddB L[k] <;> simp [List.filter_cons, hb]
theorem keep_none (L : List Nat) (h : ∀ k, k < L.length → oddB (L.getD k 0) = false) : keepL L = L := by
  unfold keepL
  rw [List.filter_eq_self]
  intro x hx
  obtain ⟨i, hi, rfl⟩ := List.getElem_of_mem hx
  have := h i hi
  rw [List.getD_eq_getElem?_getD, List.getElem?_eq_getElem hi] at this
  simpa using this
theorem keep_le (L : List Nat) : (keepL L).length ≤ L.length := List.length_filter_le _ _
/-- A row under deletion: i are kept, those from j on not seen yet. -/
structure Dl (L R : List Nat) (i j : Nat) : Prop where
  len : R.length = L.length
  ij : i < j
  jl : j ≤ L.length
  il : i = (keepL (L.take j)).length
  fr : R.take i = keepL (L.take j)
  bk : ∀ k, j ≤ k → k < L.length → R.getD k 0 = L.getD k 0
theorem Dl.start {L : List Nat} {k : Nat} (hk : k < L.length) (h1 : oddB (L.getD k 0) = true) (h0 : ∀ j, j < k → oddB (L.getD j 0) = false) : Dl L L k (k + 1) := by
  have hf : keepL (L.take (k + 1)) = L.take k := by
    rw [keep_take L k hk, h1, if_pos rfl, List.append_nil]
    refine keep_none _ fun j hj => ?_
    rw [List.length_take] at hj
    have := h0 j (by omega)
    rw [List.getD_eq_getElem?_getD] at this ⊢
    rw [List.getElem?_take_of_lt (by omega)]
    exact this
  refine ⟨rfl, Nat.lt_succ_self _, hk, ?_, hf.symm, fun _ _ _ => rfl⟩
  rw [hf, List.length_take]; omega
theorem Dl.skip {L R : List Nat} {i j : Nat} (h : Dl L R i j) (hj : j < L.length) (ho : oddB (L.getD j 0) = true) : Dl L R i (j + 1) := by
  have e := keep_take L j hj
  rw [ho, if_pos rfl, List.append_nil] at e
  exact ⟨h.len, Nat.lt_succ_of_lt h.ij, hj, by rw [e]; exact h.il, by rw [e]; exact h.fr, fun k h1 h2 => h.bk k (by omega) h2⟩
theorem Dl.keep {L R : List Nat} {i j : Nat} (h : Dl L R i j) (hj : j < L.length) (ho : oddB (L.getD j 0) = false) : Dl L (R.set i (L.getD j 0)) (i + 1) (j + 1) := by
  have e := keep_take L j hj
  rw [ho, if_neg (by decide)] at e
  have hij := h.ij
  have hl := h.len
  refine ⟨by simp [hl], by omega, hj, by rw [e, List.length_append, ← h.il]; rfl, ?_, fun k h1 h2 => ?_⟩
  · rw [e, ← h.fr, List.take_succ_eq_append_getElem (by simp; omega), List.getElem_set_self, List.take_set_of_le (Nat.le_refl _)]
  · rw [getD_set _ _ _ _ (by omega), if_neg (by omega)]
    exact h.bk k (by omega) h2
theorem Dl.stop {L R : List Nat} {i : Nat} (h : Dl L R i L.length) : i = (keepL L).length ∧ R = keepL L ++ R.drop i := by
  have h1 := h.il
  have h2 := h.fr
  rw [List.take_length] at h1 h2
  refine ⟨h1, ?_⟩
  rw [← h2, List.take_append_drop]
theorem RowF.clear {T : List Value} {w : World} {g i : Nat} {R K : List Nat} (h : RowF T w g R) (hi : i ≤ R.length) (hk : R.take i = K) : ∃ T', RowF T' (w.setCells g i (List.replicate (R.length - i) (.float .f64 0))) g K := by
  obtain ⟨cur, h1, h2, h3⟩ := setCells_row (List.replicate (R.length - i) (Value.float .f64 0)) i w _ h (by simp [fl_len]; omega)
  refine ⟨cur.toList.drop i, ?_⟩
  unfold RowF
  have hl : fl K = cur.toList.take i := by
    rw [h3, List.append_assoc, List.take_append_of_le_length (by simp [fl_len]; omega), List.take_take, Nat.min_self, ← hk]
    show fl (R.take i) = (fl R ++ T).take i
    rw [List.take_append_of_le_length (by rw [fl_len]; exact hi)]
    simp [fl, List.map_take]
  rw [hl, List.take_append_drop]
  simpa using h1
theorem bx_cells {g : Nat} {w z : World} (h : Bx g w z) (o : Nat) (vs : List Value) : Bx g w (z.setCells g o vs) := by
  obtain ⟨e1, e2, e3, e4⟩ := setCells_same g vs o z
  refine ⟨⟨e1.trans h.1.os, e2.trans h.1.tape, e3.trans h.1.output, by rw [e4]; exact h.1.size, fun i hi => ?_⟩, fun j h1 h2 => ?_⟩
  · rw [setCells_far vs o i (by omega)]; exact h.1.block i hi
  · rw [setCells_far vs o j (by omega)]; exact h.2 j h1 h2
/-- What DeleteFunc hands back. -/
def DelOut (g : Nat) (L : List Nat) (w : World) (e : Ending) (w' : World) : Prop := ∃ (cap' : Nat) (T' : List Value), e = .returned (.slice (some ⟨g, 0, none⟩) (keepL L).length cap') ∧ RowF T' w' g (keepL L) ∧ (keepL L).length ≤ cap' ∧ Bx g w w'
set_option maxRecDepth 100000 in
set_option maxHeartbeats 6400000 in
theorem del_any (T : List Value) (g cap : Nat) (L : List Nat) (hL : L.length ≤ 1000) (h64 : Fin64 L) (hcap : L.length ≤ cap) (w : World) (hg : RowF T w g L) : Calls Tryz.prog 26 #[.slice (some ⟨g, 0, none⟩) L.length cap, .func (.func 28) #[] #[]] w (DelOut g L w) := by
  have HI := Lib.hid (idx_any T g cap L hL (fun k _ => odd_ok _ (h64.getD k)) w hg)
  have HOD := Lib.hid (fun x (hx : x < 18446744073709551616) => odd_any x (odd_ok x hx))
  have HGG := Lib.hid hg
  clear hg
  go_enter Tryz.func26, Tryz.ntmps26
  go_wp2_with fail
  refine HI.out.mono ?_
  rintro e w1 ⟨r, rfl, hr, rfl⟩
  rcases hr with ⟨rfl, hall⟩ | ⟨k, hk, rfl, hk1, hall⟩
  · have HFIN : Hid (DelOut g L w (.returned (.slice (some ⟨g, 0, none⟩) L.length cap)) w) := Lib.hid ⟨cap, T, by rw [keep_none L hall], by rw [keep_none L hall]; exact HGG.out, by rw [keep_none L hall]; exact hcap, Bx.refl _ _⟩
    clear hall HI HOD HGG
    go_wp2_with fail
    go_ret
    exact HFIN.out
  · have HD := Lib.hid (Dl.start hk hk1 hall)
    have t1 : ((k : Int) == -1) = false := beq_eq_false_iff_ne.2 (by omega)
    have wk : IntKind.i64.wrap ((k : Int) + 1) = (k : Int) + 1 := IntWalk.i64_in _ (by omega)
    clear hk1 hall HI
    go_wp2_with fail
    go_loopw [5, 6] (fun iv jv wr => ∃ (i j : Nat) (R : List Nat), iv = .int .i64 i ∧ jv = .int .i64 j ∧ Hid (Dl L R i j) ∧ RowF T wr g R ∧ Bx g w wr) (fun _ jv _ => L.length - (RowKit.intOf jv).toNat)
    case atStart => exact ⟨k, k + 1, L, rfl, by go_num, HD, HGG.out, Bx.refl _ _⟩
    case round =>
      clear HD wk t1 hk
      obtain ⟨i, j, R, rfl, rfl, HD, HR0, HX0⟩ := hrel
      obtain ⟨W0, hW0, HR⟩ : ∃ z, z = _ ∧ RowF T z g R := ⟨_, rfl, HR0⟩
      subst hW0
      have HRH := Lib.hid HR
      have HXH := Lib.hid HX0
      have hij := HD.out.ij
      have hjl := HD.out.jl
      have hRl : R.length = L.length := HD.out.len
      by_cases hlt : j < L.length
      · have i1 : (j : Int) < L.length := by omega
        have i2 : (0 : Int) ≤ (j : Int) := by omega
        have i3 : (i : Int) < L.length := by omega
        have i4 : (0 : Int) ≤ (i : Int) := by omega
        have wi : IntKind.i64.wrap ((i : Int) + 1) = (i : Int) + 1 := IntWalk.i64_in _ (by omega)
        have wj : IntKind.i64.wrap ((j : Int) + 1) = (j : Int) + 1 := IntWalk.i64_in _ (by omega)
        have cj := HR.cell j (by omega)
        rw [HD.out.bk j (Nat.le_refl _) hlt] at cj
        have fi := blk_frozen HR i
        have ci := HR.cell i (by omega)
        have HO := Lib.hid (HOD.out (L.getD j 0) (h64.getD j))
        have HSK : Hid (oddB (L.getD j 0) = true → Dl L R i (j + 1)) := Lib.hid (fun h => HD.out.skip hlt h)
        have HKP : Hid (oddB (L.getD j 0) = false → Dl L (R.set i (L.getD j 0)) (i + 1) (j + 1)) := Lib.hid (fun h => HD.out.keep hlt h)
        clear HR0 HR HX0
        generalize L.getD j 0 = x at cj HO HSK HKP
        cases ho : oddB x
        · rw [ho] at HO
          have HK2 := Lib.hid (HKP.out ho)
          clear ho HSK HKP
          go_wp2_with fail
          refine (HO.out _).mono ?_
          rintro e w1 ⟨rfl, rfl⟩
          go_wp2_with fail
          go_roundw
          case rel => exact ⟨i + 1, j + 1, _, by go_num, by go_num, HK2, HRH.out.put i x (by rw [hRl]; omega), HXH.out.set i _⟩
          case measure => simp [RowKit.intOf] <;> omega
        · rw [ho] at HO
          have HK2 := Lib.hid (HSK.out ho)
          clear ho HSK HKP
          go_wp2_with fail
          refine (HO.out _).mono ?_
          rintro e w1 ⟨rfl, rfl⟩
          go_wp2_with fail
          go_roundw
          case rel => exact ⟨i, j + 1, R, rfl, by go_num, HK2, HRH.out, HXH.out⟩
          case measure => simp [RowKit.intOf] <;> omega
      · have t2 : decide ((j : Int) < (L.length : Int)) = false := decide_eq_false (by omega)
        have hjl2 : j = L.length := by omega
        have hst : i = (keepL L).length ∧ R = keepL L ++ R.drop i := by
          have := HD.out
          rw [hjl2] at this
          exact this.stop
        have htk : R.take i = keepL L := by
          have := HD.out.fr
          rw [hjl2, List.take_length] at this
          exact this
        obtain ⟨T', hT'⟩ := HR.clear (i := i) (by omega) htk
        obtain ⟨n, hn⟩ : ∃ n, L.length - i = n := ⟨_, rfl⟩
        rw [hRl, hn] at hT'
        have hi1 : i ≤ L.length := by omega
        have hc1 : ¬ cap = i := by omega
        have hc2 : (i : Int) ≤ cap := by omega
        have hc3 : (i : Int) ≤ L.length := by omega
        have hc4 : (0 : Int) ≤ (i : Int) := by omega
        have hclr : ∀ c, (Builtin.clear_ #[32] 0 #[.slice (some ⟨g, i, none⟩) n c]).run Tryz.prog W0 = .ok (.tuple #[]) (W0.setCells g i (List.replicate n (.float .f64 0))) := fun c =>
          Go.Lib.run_clear_slice W0 32 22 0 (.float .f64 0) Tryz.underlying32 Tryz.zeroValue22 rfl rfl g i n c (by omega) (fun q hq => by
            have := HRH.out.cell (i + q) (by omega)
            rw [this]; rfl) (fun q hq => blk_frozen HRH.out (i + q))
        have HFIN : Hid (DelOut g L w (.returned (.slice (some ⟨g, 0, none⟩) i cap)) (W0.setCells g i (List.replicate n (.float .f64 0)))) := Lib.hid ⟨cap, T', by rw [hst.1], hT', by rw [← hst.1]; omega, bx_cells HXH.out _ _⟩
        clear HR0 HR HX0 hst htk hT' HRH HXH HD hjl2
        generalize W0.setCells g i (List.replicate n (.float .f64 0)) = z4 at hclr HFIN
        go_wp2_with fail
        go_ret
        exact HFIN.out
end Go.Proofs.YtedllapajgcfeaaGreatDoor
