/-
  slices.SortFunc of at most twelve floats by tally.Compare, and tally.Sort of them: walked.
-/
import Derived.Test.YtedllapajgcfeaaGreatDoorIns
import Derived.Test.YtedllapajgcfeaaGreatDoorShf
import Derived.Laws.MakeOwn
namespace Go.Proofs.YtedllapajgcfeaaGreatDoor
set_option linter.unusedVariables false
set_option linter.unusedSimpArgs false
open Go.RowKit Go.Proofs.YtedllapajgcfeaaGreatDoorW.PrintWords

set_option maxRecDepth 100000 in
set_option maxHeartbeats 6400000 in
theorem pdq_any (T : List Value) (g cap : Nat) (r : Int) (L : List Nat) (hL : L.length ≤ 12) (h64 : Fin64 L) (w : World) (hg : RowF T w g L) :
    Calls Tryz.prog 54 #[.slice (some ⟨g, 0, none⟩) L.length cap, .int .i64 0, .int .i64 L.length, .int .i64 r, .func (.func 9) #[] #[]] w fun e w' => e = .returned (.tuple #[]) ∧ RowF T w' g (srt L (L.length - 1)) ∧ Bx g w w' := by
  have HI := Lib.hid (fun z (hz : RowF T z g L) => ins_any T g cap L (by omega) h64 z hz)
  have i1 : (L.length : Int) ≤ 12 := by omega
  have HGG := Lib.hid hg
  clear hg h64
  go_enter Tryz.func54, Tryz.ntmps54
  go_wp2_with fail
  go_loopw [1, 2] (fun av bv wr => av = .int .i64 0 ∧ bv = .int .i64 L.length ∧ w = wr) (fun _ _ _ => 0)
  case atStart => exact ⟨rfl, rfl, rfl⟩
  case round =>
    obtain ⟨rfl, rfl, rfl⟩ := hrel
    go_wp2_with fail
    refine (HI.out _ HGG.out).mono ?_
    rintro e w1 ⟨rfl, HR, HX⟩
    have HR := Lib.hid HR
    have HX := Lib.hid HX
    go_wp2_with fail
    first
      | (go_end0; exact ⟨rfl, HR.out, HX.out⟩)
      | exact bodyPost_ret (results_none rfl _ _ _) rfl ⟨rfl, HR.out, HX.out⟩
set_option maxHeartbeats 1600000 in
theorem len_any (n : Nat) (hn : n ≤ 1000) (w : World) : Calls Tryz.prog 55 #[.int .u64 n] w fun e w' => ∃ r : Int, e = .returned (.int .i64 r) ∧ w = w' := by
  have H := Lib.hid (Tryz.bits_Len64 (n : Int) w (by omega) (by omega))
  go_enter Tryz.func55, Tryz.ntmps55
  go_wp2_with fail
  refine H.out.mono ?_
  rintro e w1 ⟨rfl, rfl⟩
  go_wp2_with fail
  go_ret
  exact ⟨_, rfl, rfl⟩
set_option maxHeartbeats 1600000 in
theorem sort_any (T : List Value) (g cap : Nat) (L : List Nat) (hL : L.length ≤ 12) (h64 : Fin64 L) (w : World) (hg : RowF T w g L) :
    Calls Tryz.prog 45 #[.slice (some ⟨g, 0, none⟩) L.length cap, .func (.func 9) #[] #[]] w fun e w' => e = .returned (.tuple #[]) ∧ RowF T w' g (srt L (L.length - 1)) ∧ Bx g w w' := by
  have HI := Lib.hid (fun r => pdq_any T g cap r L hL h64 w hg)
  clear hg h64
  go_enter Tryz.func45, Tryz.ntmps45
  go_wp2_with fail
  refine (len_any L.length (by omega) _).mono ?_
  rintro e w1 ⟨r, rfl, rfl⟩
  go_wp2_with fail
  refine (HI.out r).mono ?_
  rintro e w2 ⟨rfl, HR, HX⟩
  have HR := Lib.hid HR
  have HX := Lib.hid HX
  go_wp2_with fail
  first
    | (go_end0; exact ⟨rfl, HR.out, HX.out⟩)
    | exact bodyPost_ret (results_none rfl _ _ _) rfl ⟨rfl, HR.out, HX.out⟩
/-- One not-a-number for all. -/
def canon (x : Nat) : Nat := if nanB x then 9221120237041090561 else x
def canonL (l : List Nat) : List Nat := l.map canon
theorem canonL_take (l : List Nat) (k : Nat) (h : k < l.length) : fl (canonL (l.take (k + 1))) = fl (canonL (l.take k)) ++ [.float .f64 (canon l[k])] := by
  rw [List.take_succ_eq_append_getElem h, canonL, List.map_append, fl, List.map_append]
  rfl
theorem canonL_len (l : List Nat) : (canonL l).length = l.length := by simp [canonL]
theorem nan_any (w : World) : Calls Tryz.prog 17 #[] w fun e w' => e = .returned (.float .f64 9221120237041090561) ∧ w = w' := by
  go_enter Tryz.func17, Tryz.ntmps17
  go_wp2
  go_ret
  exact ⟨rfl, rfl⟩
theorem make_fl (n : Nat) (hn : n ≤ 1000) (W : World) : (Instr.makeSlice 32 (.int .i64 0) (.int .i64 (n : Int))).run Tryz.prog W = .ok (.slice (some ⟨W.heap.size, 0, none⟩) 0 n) (W.alloc (.cells (madeCells #[.float .f64 0] n) 22)) := by
  have hinfo : (Tryz.prog.info? 22).map (fun i => (i.zero, i.size, i.bytes)) = some (some (.float .f64 0), 1, 8) := by kernel_rfl
  obtain ⟨i, hi, hx⟩ := Option.map_eq_some_iff.1 hinfo
  simp only [Prod.mk.injEq] at hx
  obtain ⟨hz, hs, hb⟩ := hx
  have := run_makeSlice (w := W) 32 22 i (.float .f64 0) Tryz.underlying32 hi hz .i64 .i64 0 n (by decide) (by omega) (by rw [hs]; simp; omega) (by rw [hb]; omega) (by omega)
  rw [hs] at this
  simp only [Int.toNat_zero, Int.toNat_natCast, Nat.mul_one] at this
  exact this
theorem own_fl (n : Nat) (hn : n ≤ 1000) (W : World) : (W.alloc (.cells (madeCells #[.float .f64 0] n) 22)).ownsRow W.heap.size 22 1 (.slice (some ⟨W.heap.size, 0, none⟩) 0 n) 0 (fl []) :=
  World.ownsRow_made W _ n (Nat.le_refl _) (by simp only [maxLen]; omega) (by simp [size_madeCells])
theorem canon64 {l : List Nat} (h : Fin64 l) : Fin64 (canonL l) := by
  intro x hx
  obtain ⟨y, hy, rfl⟩ := List.mem_map.1 hx
  unfold canon
  split
  · decide
  · exact h y hy
set_option maxRecDepth 100000 in
set_option maxHeartbeats 6400000 in
theorem tsort_any (A : Addr) (c : Nat) (l : List Nat) (h1 : 0 < l.length) (hl : l.length ≤ 12) (h64 : Fin64 l) (w : World) (hA : ∀ z, Below w.heap.size w z → ∀ k, k < l.length → z.cell? (A.add k) = some (.float .f64 (l.getD k 0))) :
    Calls Tryz.prog 27 #[.slice (some A) l.length c] w fun e w' => ∃ g cap T, e = .returned (.slice (some ⟨g, 0, none⟩) l.length cap) ∧ RowF T w' g (srt (canonL l) (l.length - 1)) ∧ w.heap.size ≤ g ∧ l.length ≤ cap ∧ Below w.heap.size w w' := by
  have hmk := make_fl l.length (by omega)
  have HA := Lib.hid hA
  have hnn := nan_any
  clear hA
  go_enter Tryz.func27, Tryz.ntmps27
  go_wp2_with fail
  go_loopw [3, 11] (fun vv iv wr => ∃ (k : Nat) (v : Value), v = vv ∧ k ≤ l.length ∧ iv = .int .i64 k ∧ wr.ownsRow w.heap.size 22 1 v k (fl (canonL (l.take k))) ∧ Below w.heap.size w wr) (fun _ iv _ => l.length - (RowKit.intOf iv).toNat)
  case atStart => exact ⟨0, _, rfl, by omega, rfl, own_fl _ (by omega) w, (Below.refl _ _).alloc (Nat.le_refl _) _⟩
  case round =>
    obtain ⟨k, v, rfl, hk, rfl, HO, HB⟩ := hrel
    by_cases hlt : k < l.length
    · have i1 : (k : Int) < l.length := by omega
      have ck := HA.out _ HB k hlt
      have HT : Hid (fl (canonL (l.take (k + 1))) = fl (canonL (l.take k)) ++ [.float .f64 (canon (l.getD k 0))]) := Lib.hid (by rw [canonL_take l k hlt, List.getD_eq_getElem?_getD, List.getElem?_eq_getElem hlt]; rfl)
      have hlen : (fl (canonL (l.take k))).length = k := by rw [fl_len, canonL_len, List.length_take]; omega
      have HO1 : Hid (wr.ownsRow w.heap.size 22 1 v (fl (canonL (l.take k))).length (fl (canonL (l.take k)))) := Lib.hid (by rw [hlen]; exact HO)
      have HB1 := Lib.hid HB
      have HLE := Lib.hid hlen
      have hz := Lib.hid HB.size
      clear HO HB hlen
      generalize l.getD k 0 = x at ck HT
      cases hn : nanB x
      · have ho := ordself_no hn
        have HE : Hid (canon x = x) := Lib.hid (by unfold canon; rw [hn]; rfl)
        clear hn
        go_wp2_with (at_builtin; refine print_append (w0 := w) w.heap.size rfl _ _ 32 22 (.float .f64 0) 8 rfl Tryz.underlying32 (by kernel_rfl) rfl (by omega) v (fl (canonL (l.take k))) (.float .f64 x) rfl rfl rfl (by exact HO1.out) (by exact HB1.out) hz.out (by rw [HLE.out]; omega) ?_; intro v1 w1 HO2 HB2 hg2 hat2; replace HO2 := Lib.hid HO2; replace HB2 := Lib.hid HB2; clear hg2 hat2)
        go_roundw
        case rel => exact ⟨k + 1, v1, rfl, by omega, by go_num, by rw [HT.out, HE.out]; have := HO2.out; rw [List.length_append, HLE.out] at this; exact this, HB2.out⟩
        case measure => simp [RowKit.intOf] <;> omega
      · have ho := ordself_nan hn
        have HE : Hid (canon x = 9221120237041090561) := Lib.hid (by unfold canon; rw [hn]; rfl)
        clear hn
        go_wp2_with (first | (go_at_call 17; refine (nan_any _).mono ?_; rintro e w' ⟨rfl, rfl⟩) | (at_builtin; refine print_append (w0 := w) w.heap.size rfl _ _ 32 22 (.float .f64 0) 8 rfl Tryz.underlying32 (by kernel_rfl) rfl (by omega) v (fl (canonL (l.take k))) (.float .f64 9221120237041090561) rfl rfl rfl (by exact HO1.out) (by exact HB1.out) hz.out (by rw [HLE.out]; omega) ?_; intro v1 w1 HO2 HB2 hg2 hat2; replace HO2 := Lib.hid HO2; replace HB2 := Lib.hid HB2; clear hg2 hat2))
        go_roundw
        case rel => exact ⟨k + 1, v1, rfl, by omega, by go_num, by rw [HT.out, HE.out]; have := HO2.out; rw [List.length_append, HLE.out] at this; exact this, HB2.out⟩
        case measure => simp [RowKit.intOf] <;> omega
    · have hke : k = l.length := by omega
      subst hke
      rw [List.take_length] at HO
      rcases HO.2 with ⟨_, h0⟩ | ⟨g, cap, cur, rfl, hg, hcur, hnc, _, _, htk⟩
      · exact absurd h0 (by omega)
      · have hR : RowF (cur.toList.drop l.length) wr g (canonL l) := by
          unfold RowF
          rw [← htk, Nat.mul_one, List.take_append_drop]
          simpa using hcur
        have HS := sort_any (cur.toList.drop l.length) g cap (canonL l) (by rw [canonL_len]; exact hl) (canon64 h64) wr hR
        rw [canonL_len] at HS
        have HS := Lib.hid HS
        have HB1 := Lib.hid HB
        have HG := Lib.hid hg
        have HNC := Lib.hid hnc
        clear HO HB hg hcur htk hR
        go_wp2_with fail
        refine HS.out.mono ?_
        rintro e w2 ⟨rfl, HR, HX⟩
        have HR := Lib.hid HR
        have HX := Lib.hid HX
        go_wp2_with fail
        go_ret
        exact ⟨g, cap, _, rfl, HR.out, HG.out, HNC.out, HB1.out.trans (HX.out.1.mono HG.out)⟩
end Go.Proofs.YtedllapajgcfeaaGreatDoor
