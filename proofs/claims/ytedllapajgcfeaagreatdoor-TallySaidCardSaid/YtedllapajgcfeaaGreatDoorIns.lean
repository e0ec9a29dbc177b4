/-
  slices.insertionSortCmpFunc of floats by tally.Compare: walked.
-/
import Derived.Test.YtedllapajgcfeaaGreatDoorCmp
namespace Go.Proofs.YtedllapajgcfeaaGreatDoor
set_option linter.unusedVariables false
set_option linter.unusedSimpArgs false
open Go.RowKit Go.Proofs.YtedllapajgcfeaaGreatDoorW.PrintWords

theorem run_store_float {P : Program} {w : World} {a : Addr} {m : Mode} (k : FloatKind) (n : Nat) : (store a (.float k n) m).run P w = stored P w a (.float k n) m := run_store P w a _ m rfl
attribute [go_sem] run_store_float
/-- But for one block, what was there is there. -/
def Bx (g : Nat) (w w' : World) : Prop := Below g w w' ∧ ∀ j, g < j → j < w.heap.size → w'.heap[j]? = w.heap[j]?
theorem Bx.refl (g : Nat) (w : World) : Bx g w w := ⟨Below.refl _ _, fun _ _ _ => rfl⟩
theorem Bx.trans {g : Nat} {a b c : World} (h : Bx g a b) (k : Bx g b c) : Bx g a c := ⟨h.1.trans k.1, fun j h1 h2 => (k.2 j h1 (Nat.lt_of_lt_of_le h2 h.1.size)).trans (h.2 j h1 h2)⟩
theorem Bx.drew {g : Nat} {a w : World} (h : Bx g a w) : Bx g a w.drew := ⟨h.1.drew, h.2⟩
theorem Bx.drewN {g : Nat} {a w : World} (h : Bx g a w) (n : Nat) : Bx g a (w.drewN n) := ⟨⟨h.1.os, h.1.tape, h.1.output, h.1.size, h.1.block⟩, h.2⟩
theorem Bx.alloc {g : Nat} {a w : World} (h : Bx g a w) (hg : g < a.heap.size) (o : Obj) : Bx g a (w.alloc o) :=
  ⟨h.1.alloc (Nat.le_trans (Nat.le_of_lt hg) h.1.size) o, fun j h1 h2 => (Below.heap_alloc w o j (Nat.lt_of_lt_of_le h2 h.1.size)).trans (h.2 j h1 h2)⟩
theorem Bx.set {g : Nat} {a w : World} (h : Bx g a w) (i : Nat) (v : Value) : Bx g a (w.setCell ⟨g, i, none⟩ v) :=
  ⟨h.1.setCell (Nat.le_refl _) v, fun j h1 h2 => (Below.heap_setCell w ⟨g, i, none⟩ v j (by show j ≠ g; omega)).trans (h.2 j h1 h2)⟩
theorem bl_drewN {B : Nat} {a w : World} (h : Below B a w) (n : Nat) : Below B a (w.drewN n) := ⟨h.os, h.tape, h.output, h.size, h.block⟩
theorem Bx.call {g : Nat} {a w w' : World} (h : Bx g a w) (hg : g < a.heap.size) (hb : Below w.heap.size w w') : Bx g a w' := h.trans ⟨hb.mono (Nat.le_trans (Nat.le_of_lt hg) h.1.size), fun j _ h2 => hb.block j h2⟩

theorem bthen {w w1 w2 : World} (h1 : Below w.heap.size w w1) (h2 : Below w1.heap.size w1 w2) : Below w.heap.size w w2 := h1.trans (h2.mono h1.size)
def fl (l : List Nat) : List Value := l.map (.float .f64)
theorem fl_len (l : List Nat) : (fl l).length = l.length := by simp [fl]
theorem fl_at (l : List Nat) (i : Nat) (h : i < l.length) : (fl l).toArray[i]? = some (.float .f64 l[i]) := by simp [fl, h]
def swp (l : List Nat) (j : Nat) (x y : Nat) : List Nat := (l.set j x).set (j + 1) y
/-- What stands at place j sinks. -/
def sink : Nat → List Nat → List Nat
  | 0, l => l
  | j + 1, l => if cp (l.getD (j + 1) 0) (l.getD j 0) < 0 then sink j ((l.set (j + 1) (l.getD j 0)).set j (l.getD (j + 1) 0)) else l
def srt (l : List Nat) : Nat → List Nat
  | 0 => l
  | k + 1 => sink (k + 1) (srt l k)
theorem sink_len (j : Nat) : ∀ l, (sink j l).length = l.length := by
  induction j with
  | zero => intro l; rfl
  | succ j ih =>
    intro l
    unfold sink
    split
    · rw [ih]; simp
    · rfl
theorem srt_len (l : List Nat) (k : Nat) : (srt l k).length = l.length := by
  induction k with
  | zero => rfl
  | succ k ih => unfold srt; rw [sink_len, ih]
def Fin64 (l : List Nat) : Prop := ∀ x ∈ l, x < 18446744073709551616
theorem Fin64.getD {l : List Nat} (h : Fin64 l) (i : Nat) : l.getD i 0 < 18446744073709551616 := by
  rcases Nat.lt_or_ge i l.length with hi | hi
  · rw [List.getD_eq_getElem?_getD, List.getElem?_eq_getElem hi]; exact h _ (List.getElem_mem hi)
  · rw [List.getD_eq_getElem?_getD, List.getElem?_eq_none hi]; decide
theorem Fin64.set {l : List Nat} (h : Fin64 l) (i x : Nat) (hx : x < 18446744073709551616) : Fin64 (l.set i x) := by
  intro y hy
  rcases List.mem_or_eq_of_mem_set hy with h1 | h1
  · exact h y h1
  · rw [h1]; exact hx
theorem Fin64.sink {l : List Nat} (j : Nat) : ∀ {l}, Fin64 l → Fin64 (sink j l) := by
  induction j with
  | zero => intro l h; exact h
  | succ j ih =>
    intro l h
    unfold Go.Proofs.YtedllapajgcfeaaGreatDoor.sink
    split
    · exact ih ((h.set _ _ (h.getD _)).set _ _ (h.getD _))
    · exact h
theorem Fin64.srt {l : List Nat} (h : Fin64 l) (k : Nat) : Fin64 (srt l k) := by
  induction k with
  | zero => exact h
  | succ k ih => unfold Go.Proofs.YtedllapajgcfeaaGreatDoor.srt; exact Fin64.sink (l := l) _ ih
def RowF (T : List Value) (w : World) (g : Nat) (l : List Nat) : Prop := w.heap[g]? = some (.cells (fl l ++ T).toArray 22 (0, 0))
theorem RowF.cell {T : List Value} {w : World} {g : Nat} {l : List Nat} (h : RowF T w g l) (i : Nat) (hi : i < l.length) : w.cell? ⟨g, i, none⟩ = some (.float .f64 (l.getD i 0)) := by
  rw [blk_cell h i, List.getElem?_toArray, List.getElem?_append_left (by rw [fl_len]; exact hi), ← List.getElem?_toArray, fl_at l i hi, List.getD_eq_getElem?_getD, List.getElem?_eq_getElem hi]; rfl
theorem RowF.put {T : List Value} {w : World} {g : Nat} {l : List Nat} (h : RowF T w g l) (i x : Nat) (hi : i < l.length) : RowF T (w.setCell ⟨g, i, none⟩ (.float .f64 x)) g (l.set i x) :=
  blk_put h i _ (by simp [fl, List.map_set, List.set_append, hi])
theorem RowF.below {T : List Value} {w w' : World} {g : Nat} {l : List Nat} (h : RowF T w g l) (hb : Below w.heap.size w w') : RowF T w' g l := blk_below h hb
set_option maxRecDepth 100000 in
set_option maxHeartbeats 6400000 in
theorem ins_any (T : List Value) (g cap : Nat) (L : List Nat) (hL : L.length ≤ 1000) (h64 : Fin64 L) (w : World) (hg : RowF T w g L) :
    Calls Tryz.prog 85 #[.slice (some ⟨g, 0, none⟩) L.length cap, .int .i64 0, .int .i64 L.length, .func (.func 9) #[] #[]] w fun e w' => e = .returned (.tuple #[]) ∧ RowF T w' g (srt L (L.length - 1)) ∧ Bx g w w' := by
  have HG := Lib.hid (blk_lt hg)
  go_enter Tryz.func85, Tryz.ntmps85
  go_wp2_with fail
  go_loopw [8] (fun iv wr => ∃ k : Nat, (k + 1 ≤ L.length ∨ k = 0) ∧ iv = .int .i64 ((k : Int) + 1) ∧ RowF T wr g (srt L k) ∧ Bx g w wr) (fun iv _ => L.length - (RowKit.intOf iv).toNat)
  case atStart => exact ⟨0, Or.inr rfl, rfl, hg, Bx.refl _ _⟩
  case round =>
    obtain ⟨k, hk, rfl, HR, HX⟩ := hrel
    by_cases hlt : k + 1 < L.length
    · have i1 : (k : Int) + 1 < L.length := by omega
      go_wp2_with fail
      go_loopw [9] (fun jv wr => ∃ (j : Nat) (R : List Nat), j ≤ k + 1 ∧ jv = .int .i64 j ∧ R.length = L.length ∧ Fin64 R ∧ RowF T wr g R ∧ Bx g w wr ∧ sink j R = srt L (k + 1)) (fun jv _ => (RowKit.intOf jv).toNat)
      case atStart => exact ⟨k + 1, srt L k, Nat.le_refl _, by simp, srt_len L k, h64.srt k, HR, HX, rfl⟩
      case round =>
        clear HR HX
        obtain ⟨j, R, hj, rfl, hRl, hR64, HR0, HX0, hsk⟩ := hrel
        rcases j with _ | m
        · have HSK := Lib.hid hsk
          have HR1 := Lib.hid HR0
          have HX1 := Lib.hid HX0
          clear hsk HR0 HX0 hR64
          go_wp2_with fail
          go_quiet (fail)
          go_wp2_with fail
          go_roundw
          case rel =>
            have e : R = srt L (k + 1) := HSK.out
            exact ⟨k + 1, Or.inl (by omega), by go_num, by rw [← e]; exact HR1.out, HX1.out.drewN _⟩
          case measure => simp [RowKit.intOf] <;> omega
        · obtain ⟨W0, hW0, HR⟩ : ∃ z, z = _ ∧ RowF T z g R := ⟨_, rfl, HR0⟩
          subst hW0
          have hm : m + 1 < L.length := by omega
          have ca := HR.cell (m + 1) (by rw [hRl]; omega)
          have cb := HR.cell m (by rw [hRl]; omega)
          have HC : Hid (∀ z, Below W0.heap.size W0 z → z.cell? ⟨g, m + 1, none⟩ = some (.float .f64 (R.getD (m + 1) 0)) ∧ z.cell? ⟨g, m, none⟩ = some (.float .f64 (R.getD m 0))) := Lib.hid fun z hz => ⟨(HR.below hz).cell (m + 1) (by rw [hRl]; omega), (HR.below hz).cell m (by rw [hRl]; omega)⟩
          have i2 : (m : Int) + 1 < L.length := by omega
          have i3 : (m : Int) < L.length := by omega
          have i4 : (0 : Int) ≤ (m : Int) + 1 := by omega
          have i5 : (0 : Int) ≤ (m : Int) := by omega
          have i6 : (0 : Int) < (m : Int) + 1 := by omega
          have w1 : IntKind.i64.wrap ((m : Int) + 1) = (m : Int) + 1 := IntWalk.i64_in _ (by omega)
          have w2 : IntKind.i64.wrap (m : Int) = (m : Int) := IntWalk.i64_in _ (by omega)
          have ha := hR64.getD (m + 1)
          have hb := hR64.getD m
          have HSK : Hid ((if cp (R.getD (m + 1) 0) (R.getD m 0) < 0 then sink m ((R.set (m + 1) (R.getD m 0)).set m (R.getD (m + 1) 0)) else R) = srt L (k + 1)) := Lib.hid hsk
          have HR1 := Lib.hid HR
          have HX1 := Lib.hid HX0
          have H64 := Lib.hid hR64
          clear hsk HR HR0 HX0 hR64
          generalize R.getD (m + 1) 0 = x at *
          generalize R.getD m 0 = y at *
          have HCMP := Lib.hid (fun z => compare_any x y ha hb z)
          generalize cp x y = c at HSK HCMP
          have HXY := Lib.hid (And.intro ha hb)
          clear ha hb
          by_cases hc : c < 0
          · have dc : decide (c < 0) = true := decide_eq_true hc
            go_wp2_with fail
            go_region_held3 (fun z => Below W0.heap.size W0 z ∧ z.cell? ⟨g, m + 1, none⟩ = some (.float .f64 x) ∧ z.cell? ⟨g, m, none⟩ = some (.float .f64 y)) ((refine ⟨?_, HC.out _ ?_⟩ <;> (repeat (first | (with_reducible exact Below.refl _ _) | (with_reducible refine Below.drew ?_) | (with_reducible refine bl_drewN ?_ _) | ((with_reducible apply bthen); rotate_left; assumption))))) ((go_at_call 9; (with_reducible refine (HCMP.out _).mono ?_); rintro e w3 ⟨rfl, B3⟩))
            all_goals
              go_wp2_with fail
              have hS := ‹Below W0.heap.size W0 w3 ∧ _›
              have hR3 := HR1.out.below hS.1
              have hRd : RowF T w3.drew g R := hR3
              have hRa : RowF T (w3.drew.setCell ⟨g, m + 1, none⟩ (.float .f64 y)) g (R.set (m + 1) y) := hRd.put (m + 1) y (by rw [hRl]; omega)
              have hRb : RowF T (w3.drew.setCell ⟨g, m, none⟩ (.float .f64 x)) g (R.set m x) := hRd.put m x (by rw [hRl]; omega)
              have d1 : w3.drew.cell? ⟨g, m + 1, none⟩ = some (.float .f64 x) := hS.2.1
              have d0 : w3.drew.cell? ⟨g, m, none⟩ = some (.float .f64 y) := hS.2.2
              have f1 := blk_frozen hRd (m + 1)
              have f0 := blk_frozen hRd m
              have fa := blk_frozen hRa m
              have fb := blk_frozen hRb (m + 1)
              have da := hRa.cell m (by simp; omega)
              have db := hRb.cell (m + 1) (by simp; omega)
              have g1 := blk_frozen hR3 (m + 1)
              have g0 := blk_frozen hR3 m
              have HRd := Lib.hid hRd
              clear hR3 hRd hRa hRb
              go_region_with (fail)
              all_goals
                go_wp2_with fail
                exact ⟨⟨m, (R.set (m + 1) y).set m x, by omega, rfl, by simp [hRl], (H64.out.set _ _ HXY.out.2).set _ _ HXY.out.1, (HRd.out.put (m + 1) y (by rw [hRl]; omega)).put m x (by simp; omega), (((HX1.out.call HG.out hS.1).set (m + 1) _).set m _).drew, by rw [← HSK.out, if_pos (by omega)]⟩, by simp [RowKit.intOf] <;> omega⟩
          · have dc : decide (c < 0) = false := decide_eq_false hc
            go_wp2_with fail
            go_region_held3 (fun z => Below W0.heap.size W0 z ∧ z.cell? ⟨g, m + 1, none⟩ = some (.float .f64 x) ∧ z.cell? ⟨g, m, none⟩ = some (.float .f64 y)) ((refine ⟨?_, HC.out _ ?_⟩ <;> (repeat (first | (with_reducible exact Below.refl _ _) | (with_reducible refine Below.drew ?_) | (with_reducible refine bl_drewN ?_ _) | ((with_reducible apply bthen); rotate_left; assumption))))) ((go_at_call 9; (with_reducible refine (HCMP.out _).mono ?_); rintro e w3 ⟨rfl, B3⟩))
            all_goals
              go_wp2_with fail
              have hS := ‹Below W0.heap.size W0 w3 ∧ _›
              exact ⟨⟨k + 1, Or.inl (by omega), by go_num, by rw [← HSK.out, if_neg (by omega)]; exact HR1.out.below hS.1, HX1.out.call HG.out hS.1⟩, by simp [RowKit.intOf] <;> omega⟩
    · have e : srt L k = srt L (L.length - 1) := by
        congr 1
        omega
      rw [e] at HR
      have HR1 := Lib.hid HR
      have HX1 := Lib.hid HX
      clear HR HX e
      go_wp2_with fail
      first
        | (go_end0; exact ⟨rfl, HR1.out, HX1.out⟩)
        | exact bodyPost_ret (results_none rfl _ _ _) rfl ⟨rfl, HR1.out, HX1.out⟩
end Go.Proofs.YtedllapajgcfeaaGreatDoor
