/-
  slices.SortFunc of up to a thousand floats by tally.Compare, and tally.Sort of them: walked.
-/
import Derived.Test.YtedllapajgcfeaaGreatDoorPdq
import Derived.Test.YtedllapajgcfeaaGreatDoorSrt
namespace Go.Proofs.YtedllapajgcfeaaGreatDoor
set_option linter.unusedVariables false
set_option linter.unusedSimpArgs false
open Go.RowKit Go.Proofs.YtedllapajgcfeaaGreatDoorW.PrintWords

theorem bl_small : ∀ n, n < 1001 → Lib.bitLen n ≤ 10 := by decide +kernel
set_option maxHeartbeats 1600000 in
theorem len_gen (n : Nat) (hn : n ≤ 1000) (w : World) : Calls Tryz.prog 55 #[.int .u64 n] w fun e w' => ∃ r : Nat, e = .returned (.int .i64 r) ∧ r ≤ 10 ∧ w' = w := by
  refine (Tryz.bits_Len (n : Int) w (by omega) (by omega)).mono ?_
  rintro e w1 ⟨rfl, rfl⟩
  exact ⟨_, rfl, bl_small n (by omega), rfl⟩
set_option maxHeartbeats 1600000 in
theorem sort_gen (T : List Value) (g cap N : Nat) (L : List Nat) (hN : L.length = N) (hL : N ≤ 1000) (h64 : Fin64 L) (w : World) (hg : RowF T w g L) :
    Calls Tryz.prog 45 #[.slice (some ⟨g, 0, none⟩) N cap, .func (.func 9) #[] #[]] w fun e w' => e = .returned (.tuple #[]) ∧ Tn T g 0 N L (So 0 N) w w' := by
  have HI := Lib.hid (fun (r : Nat) (hr : r ≤ 10) => pdq_all (N + 1) T g cap 0 N N (r : Int) L hN hL h64 (Nat.zero_le _) (Nat.le_refl _) (by omega) (by omega) (by omega) (fun i j h => by omega) w hg)
  clear hg h64 hN
  go_enter Tryz.func45, Tryz.ntmps45
  go_wp2_with fail
  refine (len_gen N hL _).mono ?_
  rintro e w1 ⟨r, rfl, hr, rfl⟩
  have HR := Lib.hid (HI.out r hr)
  clear hr HI
  go_wp2_with fail
  refine HR.out.mono ?_
  rintro e w2 ⟨rfl, HT⟩
  have HT := Lib.hid HT
  go_wp2_with fail
  first
    | (go_end0; exact ⟨rfl, HT.out⟩)
    | exact bodyPost_ret (results_none rfl _ _ _) rfl ⟨rfl, HT.out⟩
/-- What Sort of at least one number hands back. -/
def SortOut (l : List Nat) (w : World) (e : Ending) (w' : World) : Prop := ∃ (g cap : Nat) (T : List Value) (M : List Nat), e = .returned (.slice (some ⟨g, 0, none⟩) l.length cap) ∧ RowF T w' g M ∧ M.Perm (canonL l) ∧ So 0 l.length M ∧ w.heap.size ≤ g ∧ l.length ≤ cap ∧ Below w.heap.size w w'
set_option maxRecDepth 100000 in
set_option maxHeartbeats 6400000 in
theorem tsort_gen (A : Addr) (c : Nat) (l : List Nat) (h1 : 0 < l.length) (hl : l.length ≤ 1000) (h64 : Fin64 l) (w : World) (hA : ∀ z, Below w.heap.size w z → ∀ k, k < l.length → z.cell? (A.add k) = some (.float .f64 (l.getD k 0))) :
    Calls Tryz.prog 27 #[.slice (some A) l.length c] w (SortOut l w) := by
  have hmk := make_fl l.length (by omega)
  have HA := Lib.hid hA
  have hnn := nan_any
  clear hA
  go_enter Tryz.func27, Tryz.ntmps27
  go_wp2_with fail
  go_loopw [3, 11] (fun vv iv wr => ∃ (k : Nat) (v : Value), v = vv ∧ k ≤ l.length ∧ iv = .int .i64 k ∧ wr.ownsRow w.heap.size 22 1 v k (fl (canonL (l.take k))) ∧ Below w.heap.size w wr) (fun _ iv _ => l.length - (RowKit.intOf iv).toNat)
  case atStart => exact ⟨0, _, rfl, by omega, rfl, own_fl _ (by omega) w, (Below.refl _ _).alloc (Nat.le_refl _) _⟩
  case round =>
    obtain ⟨k, v, rfl, hk, rfl, HO, HB⟩ := hrel
    by_cases hlt : k < l.length
    · have i1 : (k : Int) < l.length := by omega
      have ck := HA.out _ HB k hlt
      have HT : Hid (fl (canonL (l.take (k + 1))) = fl (canonL (l.take k)) ++ [.float .f64 (canon (l.getD k 0))]) := Lib.hid (by rw [canonL_take l k hlt, List.getD_eq_getElem?_getD, List.getElem?_eq_getElem hlt]; rfl)
      have hlen : (fl (canonL (l.take k))).length = k := by rw [fl_len, canonL_len, List.length_take]; omega
      have HO1 : Hid (wr.ownsRow w.heap.size 22 1 v (fl (canonL (l.take k))).length (fl (canonL (l.take k)))) := Lib.hid (by rw [hlen]; exact HO)
      have HB1 := Lib.hid HB
      have HLE := Lib.hid hlen
      have hz := Lib.hid HB.size
      clear HO HB hlen
      generalize l.getD k 0 = x at ck HT
      cases hn : nanB x
      · have ho := ordself_no hn
        have HE : Hid (canon x = x) := Lib.hid (by unfold canon; rw [hn]; rfl)
        clear hn
        go_wp2_with (at_builtin; refine print_append (w0 := w) w.heap.size rfl _ _ 32 22 (.float .f64 0) 8 rfl Tryz.underlying32 (by kernel_rfl) rfl (by omega) v (fl (canonL (l.take k))) (.float .f64 x) rfl rfl rfl (by exact HO1.out) (by exact HB1.out) hz.out (by rw [HLE.out]; omega) ?_; intro v1 w1 HO2 HB2 hg2 hat2; replace HO2 := Lib.hid HO2; replace HB2 := Lib.hid HB2; clear hg2 hat2)
        go_roundw
        case rel => exact ⟨k + 1, v1, rfl, by omega, by go_num, by rw [HT.out, HE.out]; have := HO2.out; rw [List.length_append, HLE.out] at this; exact this, HB2.out⟩
        case measure => simp [RowKit.intOf] <;> omega
      · have ho := ordself_nan hn
        have HE : Hid (canon x = 9221120237041090561) := Lib.hid (by unfold canon; rw [hn]; rfl)
        clear hn
        go_wp2_with (first | (go_at_call 17; refine (nan_any _).mono ?_; rintro e w' ⟨rfl, rfl⟩) | (at_builtin; refine print_append (w0 := w) w.heap.size rfl _ _ 32 22 (.float .f64 0) 8 rfl Tryz.underlying32 (by kernel_rfl) rfl (by omega) v (fl (canonL (l.take k))) (.float .f64 9221120237041090561) rfl rfl rfl (by exact HO1.out) (by exact HB1.out) hz.out (by rw [HLE.out]; omega) ?_; intro v1 w1 HO2 HB2 hg2 hat2; replace HO2 := Lib.hid HO2; replace HB2 := Lib.hid HB2; clear hg2 hat2))
        go_roundw
        case rel => exact ⟨k + 1, v1, rfl, by omega, by go_num, by rw [HT.out, HE.out]; have := HO2.out; rw [List.length_append, HLE.out] at this; exact this, HB2.out⟩
        case measure => simp [RowKit.intOf] <;> omega
    · have hke : k = l.length := by omega
      subst hke
      rw [List.take_length] at HO
      rcases HO.2 with ⟨_, h0⟩ | ⟨g, cap, cur, rfl, hg, hcur, hnc, _, _, htk⟩
      · exact absurd h0 (by omega)
      · have hR : RowF (cur.toList.drop l.length) wr g (canonL l) := by
          unfold RowF
          rw [← htk, Nat.mul_one, List.take_append_drop]
          simpa using hcur
        have HS := sort_gen (cur.toList.drop l.length) g cap l.length (canonL l) (canonL_len l) hl (canon64 h64) wr hR
        have HS := Lib.hid HS
        have HB1 := Lib.hid HB
        have HG := Lib.hid hg
        have HNC := Lib.hid hnc
        clear HO HB hg hcur htk hR
        go_wp2_with fail
        refine HS.out.mono ?_
        rintro e w2 ⟨rfl, M, HR, HP, HO, HX⟩
        have HR := Lib.hid (And.intro HR (And.intro HP.perm HO))
        have HX := Lib.hid HX
        go_wp2_with fail
        go_ret
        exact ⟨g, cap, _, M, rfl, HR.out.1, HR.out.2.1, HR.out.2.2, HG.out, HNC.out, HB1.out.trans (HX.out.1.mono HG.out)⟩
end Go.Proofs.YtedllapajgcfeaaGreatDoor
