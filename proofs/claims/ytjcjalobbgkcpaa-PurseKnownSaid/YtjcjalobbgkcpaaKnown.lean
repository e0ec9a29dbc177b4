/-
  PurseKnown: the chapter's examples; nil ones: the call returns true.
-/
import Derived.Test.YtjcjalobbgkcpaaSum
namespace Go.Proofs.Ytjcjalobbgkcpaa
open Go.RowKit Go.Proofs.YtjcjalobbgkcpaaW.PrintWords

theorem nan_any (w : World) : Calls Try.prog 14 #[] w fun e w' => e = .returned (.float .f64 9221120237041090561) ∧ w = w' := by
  go_enter Try.func14, Try.ntmps14
  go_wp2
  go_ret
  exact ⟨rfl, rfl⟩
theorem inf_pos (w : World) : Calls Try.prog 16 #[.int .i64 1] w fun e w' => e = .returned (.float .f64 9218868437227405312) ∧ w = w' := by
  go_enter Try.func16, Try.ntmps16
  go_wp2
  go_ret
  exact ⟨rfl, rfl⟩
theorem inf_neg (w : World) : Calls Try.prog 16 #[.int .i64 (-1)] w fun e w' => e = .returned (.float .f64 18442240474082181120) ∧ w = w' := by
  go_enter Try.func16, Try.ntmps16
  go_wp2
  go_ret
  exact ⟨rfl, rfl⟩
theorem cps_any (w : World) : Calls Try.prog 15 #[.float .f64 0, .float .f64 13830554455654793216] w fun e w' => e = .returned (.float .f64 9223372036854775808) ∧ w = w' := by
  have h1 : bits .andNot .u64 0 9223372036854775808 = 0 := by decide +kernel
  have h2 : bits .and .u64 13830554455654793216 9223372036854775808 = 9223372036854775808 := by decide +kernel
  have h3 : bits .or .u64 0 9223372036854775808 = 9223372036854775808 := by decide +kernel
  go_enter Try.func15, Try.ntmps15
  go_wp2
  go_ret
  exact ⟨rfl, rfl⟩
abbrev RN (w : World) : World := (w.alloc (.cells #[.pointer none] 22)).alloc (.cells #[.bool false] 4)
theorem run_nil (w : World) (f : FuncId) (cap : Array Value) (hent : ∀ w, (callFunc f cap).run Try.prog w = .ok (.enter f cap) w)
    (hdo : ∀ n, Calls Try.prog f cap ((RN w).drewN n) fun e w2 => e = .returned (.tuple #[]) ∧ Only (fun _ => False) ((RN w).drewN n) w2) :
    Calls Try.prog 12 #[.pointer none, .func (Fn.func f) #[] cap] w fun e w' => e = .returned (.bool true) ∧ Only (fun _ => False) w w' := by
  have hmf : ∀ (fn : Fn) (first cap : Array Value) (w : World), (Instr.makeFunc fn first cap).run Try.prog w = .ok (.func fn first cap) w := fun _ _ _ _ => rfl
  go_enter_defers Try.func12, Try.ntmps12
  go_wp2_with fail
  refine (over_nil _).mono ?_
  rintro e w1 ⟨rfl, m, rfl⟩
  go_wp2_with fail
  refine (hdo m).mono ?_
  rintro e w2 ⟨rfl, hO⟩
  have hb : ((RN w).drewN m).heap[w.heap.size + 1]? = some (.cells #[.bool false] 4 (0, 0)) := by
    have := blk_new (w.alloc (.cells #[.pointer none] 22)) (.cells #[.bool false] 4)
    have e : (w.alloc (.cells #[.pointer none] 22)).heap.size = w.heap.size + 1 := by simp
    rw [e] at this
    exact this
  have hE : Only (fun _ => False) w (w2.setCell ⟨w.heap.size + 1, 0, none⟩ (.bool true)) := (((((Only.refl _ w).alloc _).alloc _).trans ⟨rfl, rfl, rfl, Nat.le_refl _, fun _ _ _ => rfl⟩ : Only (fun _ => False) w ((RN w).drewN m)).trans hO).setCell (Or.inr (by show w.heap.size ≤ w.heap.size + 1; omega)) _
  have k2 := hO.blk hb id
  have c1 := blk_cell k2 0
  have f1 := blk_frozen k2 0
  simp at c1
  clear hdo hO hent k2 hb
  go_wp2_with fail
  refine leaves_cons (f := 34) (args := #[.pointer (some ⟨w.heap.size, 0, none⟩), .pointer (some ⟨w.heap.size + 1, 0, none⟩)]) (by simp) (by simp [go_sem]) ?_
  refine (catch_idle _ _ _).mono ?_
  rintro e u' w'' ⟨rfl, rfl, rfl⟩
  exact ⟨.bool true, by simp [results, Try.results12, go_sem, c1], rfl, hE⟩
theorem cl_nil (p q : Nat) (w : World) (hp : w.cell? ⟨p, 0, none⟩ = some (.pointer none)) (hq : w.cell? ⟨q, 0, none⟩ = some (.int .i64 5)) :
    Calls Try.prog 32 #[.pointer (some ⟨p, 0, none⟩), .pointer (some ⟨q, 0, none⟩)] w fun e w' =>
    e = .returned (.tuple #[]) ∧ w = w' := by
  go_enter Try.func32, Try.ntmps32
  go_wp2_with fail
  refine (spend_nil 5 _).mono ?_
  rintro e w' ⟨rfl, rfl⟩
  go_wp2_with fail
  first | (go_end0; exact ⟨rfl, rfl⟩) | exact bodyPost_ret (results_none rfl _ _ _) rfl ⟨rfl, rfl⟩
theorem spends_nil (w : World) : Calls Try.prog 10 #[.pointer none, .int .i64 5] w fun e w' => e = .returned (.bool true) ∧ Only (fun _ => False) w w' := by
  have hmf : ∀ (fn : Fn) (first cap : Array Value) (w : World), (Instr.makeFunc fn first cap).run Try.prog w = .ok (.func fn first cap) w := fun _ _ _ _ => rfl
  go_enter Try.func10, Try.ntmps10
  go_wp2_with fail
  refine (run_nil _ _ _ (cl_enter _ _) (fun m => ?_)).mono ?_
  · refine (cl_nil _ _ _ ?_ ?_).mono ?_
    · simp [go_sem]
    · simp [go_sem]
    · rintro e w' ⟨rfl, rfl⟩
      exact ⟨rfl, Only.refl _ _⟩
  · rintro e w1 ⟨rfl, hO⟩
    have hO2 : Only (fun _ => False) w w1 := (((Only.refl _ _).alloc _).alloc _).trans hO
    clear hO
    go_wp2_with fail
    go_ret
    exact ⟨rfl, hO2⟩
theorem left_nil (w : World) : Calls Try.prog 11 #[.pointer none] w fun e w' => e = .returned (.float .f64 0) ∧ w = w' := by
  go_enter Try.func11, Try.ntmps11
  go_wp2_with fail
  go_ret
  exact ⟨rfl, rfl⟩
theorem big_left : lfw (p2 70) 0 = p2 70 := by decide +kernel
theorem lit_left : lfw 4612811918334230528 2 = 0 := by decide +kernel
def B6 (k : Nat) : Nat := [9221120237041090561, 9223372036854775808, 0, 13830554455654793216, 18442240474082181120, 4607092346807469998].getD k 0
theorem b6_aff : ∀ k, k < 6 → Fl.aff (B6 k) = 0 := by decide +kernel
theorem b6_get : ∀ k, k < 6 → (#[Value.float .f64 9221120237041090561, .float .f64 9223372036854775808, .float .f64 0, .float .f64 13830554455654793216, .float .f64 18442240474082181120, .float .f64 4607092346807469998])[k]? = some (.float .f64 (B6 k)) := by
  intro k h
  rcases k with _ | _ | _ | _ | _ | _ | k
  all_goals first | rfl | omega
set_option maxRecDepth 100000 in
set_option maxHeartbeats 1600000 in
theorem known_any (w : World) :
    Calls Try.prog 3 #[] w fun e w' => e = .returned (.bool true) ∧ Below w.heap.size w w' := by
  have hmf : ∀ (fn : Fn) (first cap : Array Value) (w : World), (Instr.makeFunc fn first cap).run Try.prog w = .ok (.func fn first cap) w := fun _ _ _ _ => rfl
  have hz : FloatKind.f64.format.order 0 0 = some .eq := by decide +kernel
  have ha : Hid (Fl.aff 4612811918334230528 = 2) := Lib.hid (by decide +kernel)
  go_enter Try.func3, Try.ntmps3
  go_wp2_with fail
  refine (new_any _ _).mono ?_
  rintro e w1 ⟨rfl, rfl⟩
  have HO := (Only.refl (fun k => w.heap.size ≤ k) w).alloc (.cells #[.float .f64 4612811918334230528, .int .u64 0] 49)
  have hK : PB (w.alloc (.cells #[.float .f64 4612811918334230528, .int .u64 0] 49)) w.heap.size 4612811918334230528 0 := blk_new w _
  generalize w.alloc (.cells #[.float .f64 4612811918334230528, .int .u64 0] 49) = W at hK HO ⊢
  have KK := Lib.hid hK
  clear hK
  go_wp2_with fail
  refine (spends_k w.heap.size 4612811918334230528 0 2 true (by omega) 2 (by omega) (by decide +kernel) (by decide +kernel) _ KK.out).mono ?_
  rintro e w1 ⟨rfl, hO, hK⟩
  have HO1 := HO.trans (only_ge hO (Nat.le_refl _))
  have K1 := Lib.hid hK
  clear HO KK hO hK
  go_wp2_with fail
  refine (left_any w.heap.size 4612811918334230528 2 (by rw [ha.out]; omega) (by omega) _ K1.out).mono ?_
  rw [lit_left]
  rintro e w2 ⟨rfl, m1, rfl⟩
  go_wp2_with fail
  refine (spends_k w.heap.size 4612811918334230528 2 3 false (by omega) 1 (by omega) (by decide +kernel) (by decide +kernel) _ (pb_drewN K1.out m1)).mono ?_
  rintro e w2 ⟨rfl, hO, hK⟩
  have HO2 := (HO1.trans (only_drewN _ _ m1)).trans (only_ge hO (Nat.le_refl _))
  have K2 := Lib.hid hK
  clear HO1 K1 hO hK
  go_wp2_with fail
  refine (run_over w.heap.size 4612811918334230528 3 _ (blk_alloc K2.out _) (by rw [ha.out]; omega) _).mono ?_
  rintro e w3 ⟨rfl, hO⟩
  have hC : w3.heap[w2.heap.size]? = some (.cells #[.bool false] 4 (0, 0)) := hO.blk (blk_new w2 _) id
  have HO3 := (HO2.alloc (.cells #[.bool false] 4)).trans (hO.mono (fun _ _ h => h.elim))
  have hl2 := HO3.size
  have hl3 := hO.size
  simp at hl3
  have HC := Lib.hid hC
  clear hC hO HO2 K2
  go_wp2_with (first
    | (go_at_call 14; refine (nan_any _).mono ?_; rintro e w' ⟨rfl, rfl⟩)
    | (go_at_call 15; refine (cps_any _).mono ?_; rintro e w' ⟨rfl, rfl⟩)
    | (go_at_call 16; refine (inf_neg _).mono ?_; rintro e w' ⟨rfl, rfl⟩))
  have hLB : (w3.alloc (.cells #[.float .f64 9221120237041090561, .float .f64 9223372036854775808, .float .f64 0, .float .f64 13830554455654793216, .float .f64 18442240474082181120, .float .f64 4607092346807469998] 24)).heap[w3.heap.size]? = some (.cells #[.float .f64 9221120237041090561, .float .f64 9223372036854775808, .float .f64 0, .float .f64 13830554455654793216, .float .f64 18442240474082181120, .float .f64 4607092346807469998] 24 (0, 0)) := blk_new w3 _
  have hCB := blk_alloc HC.out (.cells #[.float .f64 9221120237041090561, .float .f64 9223372036854775808, .float .f64 0, .float .f64 13830554455654793216, .float .f64 18442240474082181120, .float .f64 4607092346807469998] 24)
  have HO4 := HO3.alloc (.cells #[.float .f64 9221120237041090561, .float .f64 9223372036854775808, .float .f64 0, .float .f64 13830554455654793216, .float .f64 18442240474082181120, .float .f64 4607092346807469998] 24)
  have hw4 : w3.heap.size < (w3.alloc (.cells #[.float .f64 9221120237041090561, .float .f64 9223372036854775808, .float .f64 0, .float .f64 13830554455654793216, .float .f64 18442240474082181120, .float .f64 4607092346807469998] 24)).heap.size := by simp
  generalize w3.alloc (.cells #[.float .f64 9221120237041090561, .float .f64 9223372036854775808, .float .f64 0, .float .f64 13830554455654793216, .float .f64 18442240474082181120, .float .f64 4607092346807469998] 24) = W4 at hLB hCB HO4 hw4 ⊢
  have HLB := Lib.hid hLB
  have HCB := Lib.hid hCB
  clear hLB hCB HC HO3
  go_loopw [30] (fun i wr => ∃ k : Nat, k ≤ 6 ∧ i = .int .i64 k ∧ Only (fun k => w.heap.size ≤ k) w wr ∧ w3.heap.size < wr.heap.size ∧ Hid (wr.heap[w3.heap.size]? = some (.cells #[.float .f64 9221120237041090561, .float .f64 9223372036854775808, .float .f64 0, .float .f64 13830554455654793216, .float .f64 18442240474082181120, .float .f64 4607092346807469998] 24 (0, 0))) ∧ Hid (wr.heap[w2.heap.size]? = some (.cells #[.bool false] 4 (0, 0)))) (fun i _ => 6 - (intOf i).toNat)
  case atStart => exact ⟨0, by omega, rfl, HO4, hw4, HLB, HCB⟩
  case round =>
    clear HO4 hw4 HLB HCB
    obtain ⟨k, hk, rfl, HO, hsz, HL, HC⟩ := hrel
    by_cases hlt : k < 6
    · have hcell : wr.cell? ⟨w3.heap.size, k, none⟩ = some (.float .f64 (B6 k)) := by
        have := blk_cell HL.out k
        rw [this]
        exact b6_get k hlt
      have hb := Lib.hid (b6_aff k hlt)
      generalize B6 k = b at hcell hb
      go_wp2_with fail
      refine (new_any _ _).mono ?_
      rintro e w4 ⟨rfl, rfl⟩
      have HO5 := HO.alloc (.cells #[.float .f64 b, .int .u64 0] 49)
      have hL5 := blk_alloc HL.out (.cells #[.float .f64 b, .int .u64 0] 49)
      have hC5 := blk_alloc HC.out (.cells #[.float .f64 b, .int .u64 0] 49)
      have hQ5 : PB (wr.alloc (.cells #[.float .f64 b, .int .u64 0] 49)) wr.heap.size b 0 := blk_new wr _
      generalize wr.alloc (.cells #[.float .f64 b, .int .u64 0] 49) = w5 at HO5 hL5 hC5 hQ5 ⊢
      have HL5 := Lib.hid hL5
      have HC5 := Lib.hid hC5
      have HQ5 := Lib.hid hQ5
      have hgl := blk_lt hQ5
      have hwl := HO.size
      clear HO hL5 hC5 hQ5 HL HC hcell
      go_wp2_with fail
      refine (spends_k wr.heap.size b 0 0 true (by omega) 0 (by omega) (by rw [spn, if_neg (by omega)]; rfl) (by simp) _ HQ5.out).mono ?_
      rintro e w6 ⟨rfl, hO, hK⟩
      have HO6 := HO5.trans (only_ge hO (by omega))
      have HL6 := Lib.hid (hO.blk HL5.out (by omega))
      have HC6 := Lib.hid (hO.blk HC5.out (by omega))
      have HK6 := Lib.hid hK
      clear HO5 HL5 HC5 HQ5 hO hK
      go_wp2_with fail
      refine (spends_k wr.heap.size b 0 1 false (by omega) 1 (by omega) (by rw [spn, if_neg (by omega)]; rfl) (by rw [hb.out]; rfl) _ HK6.out).mono ?_
      rintro e w7 ⟨rfl, hO, hK⟩
      have HO7 := HO6.trans (only_ge hO (by omega))
      have HL7 := Lib.hid (hO.blk HL6.out (by omega))
      have HC7 := Lib.hid (hO.blk HC6.out (by omega))
      have HK7 := Lib.hid hK
      have hz7 := blk_lt hK
      clear HO6 HL6 HC6 HK6 hO hK
      go_wp2_with fail
      refine (left_none wr.heap.size b 1 _ HK7.out (Or.inl (by rw [hb.out]; omega))).mono ?_
      rintro e w8 ⟨rfl, m2, rfl⟩
      go_wp2_with fail
      refine (over_k wr.heap.size b 1 true (by rw [hb.out]; rfl) _ (pb_drewN HK7.out m2)).mono ?_
      rintro e w8 ⟨rfl, m3, rfl⟩
      go_wp2_with fail
      refine (spent_any wr.heap.size b 1 _ (pb_drewN HK7.out _)).mono ?_
      rintro e w8 ⟨rfl, rfl⟩
      go_wp2_with fail
      go_roundw
      case rel => exact ⟨k + 1, by omega, by go_num, HO7.trans (only_drewN _ _ _), by show w3.heap.size < w7.heap.size; omega, Lib.hid HL7.out, Lib.hid HC7.out⟩
      case measure => simp [intOf]; omega
    · have hlw := HO.size
      have HOL := HO
      clear HL HO
      go_wp2_with fail
      refine (inf_pos _).mono ?_
      rintro e w' ⟨rfl, rfl⟩
      go_wp2_with fail
      refine (new_any _ _).mono ?_
      rintro e w' ⟨rfl, rfl⟩
      have hI : PB (wr.alloc (.cells #[.float .f64 9218868437227405312, .int .u64 0] 49)) wr.heap.size 9218868437227405312 0 := blk_new wr _
      have HI := Lib.hid hI
      clear hI
      go_wp2_with fail
      refine (ldexp_any 70 (by omega) _).mono ?_
      rintro e w' ⟨rfl, rfl⟩
      go_wp2_with fail
      refine (new_any _ _).mono ?_
      rintro e w' ⟨rfl, rfl⟩
      have hI2 := blk_alloc HI.out (.cells #[.float .f64 (p2 70), .int .u64 0] 49)
      have hJ : PB ((wr.alloc (.cells #[.float .f64 9218868437227405312, .int .u64 0] 49)).alloc (.cells #[.float .f64 (p2 70), .int .u64 0] 49)) (wr.heap.size + 1) (p2 70) 0 := by
        have := blk_new (wr.alloc (.cells #[.float .f64 9218868437227405312, .int .u64 0] 49)) (.cells #[.float .f64 (p2 70), .int .u64 0] 49)
        have e : (wr.alloc (.cells #[.float .f64 9218868437227405312, .int .u64 0] 49)).heap.size = wr.heap.size + 1 := by simp
        rw [e] at this
        exact this
      have hC2 := blk_alloc (blk_alloc HC.out (.cells #[.float .f64 9218868437227405312, .int .u64 0] 49)) (.cells #[.float .f64 (p2 70), .int .u64 0] 49)
      have HO2 := (HOL.alloc (.cells #[.float .f64 9218868437227405312, .int .u64 0] 49)).alloc (.cells #[.float .f64 (p2 70), .int .u64 0] 49)
      generalize (wr.alloc (.cells #[.float .f64 9218868437227405312, .int .u64 0] 49)).alloc (.cells #[.float .f64 (p2 70), .int .u64 0] 49) = w5 at hI2 hJ hC2 HO2 ⊢
      have HI2 := Lib.hid hI2
      have HJ := Lib.hid hJ
      have HC2 := Lib.hid hC2
      clear hI2 hJ hC2 HI HC HOL
      go_wp2_with fail
      refine (spends_k wr.heap.size 9218868437227405312 0 4611686018427387904 true (by omega) 4611686018427387904 (by omega) (by decide +kernel) (by decide +kernel) _ HI2.out).mono ?_
      rintro e w6 ⟨rfl, hO, hK⟩
      have HO3 := HO2.trans (only_ge hO hlw)
      have HJ3 := Lib.hid (hO.blk HJ.out (by omega))
      have HC3 := Lib.hid (hO.blk HC2.out (by omega))
      have HI3 := Lib.hid hK
      clear HO2 HJ HC2 HI2 hO hK
      go_wp2_with fail
      refine (spend_nil 5 _).mono ?_
      rintro e w7 ⟨rfl, rfl⟩
      go_wp2_with fail
      refine (spends_nil _).mono ?_
      rintro e w7 ⟨rfl, hO⟩
      have HO4 := HO3.trans (hO.mono (fun _ _ h => h.elim))
      have HJ4 := Lib.hid (hO.blk HJ3.out id)
      have HI4 := Lib.hid (hO.blk HI3.out id)
      have hC4 := hO.blk HC3.out id
      have cc := blk_cell hC4 0
      simp at cc
      clear HO3 HJ3 HI3 HC3 hO hC4
      go_wp2_with fail
      refine (left_of wr.heap.size 9218868437227405312 4611686018427387904 9218868437227405312 9218868437227405312 _ HI4.out (by decide +kernel) (by decide +kernel) (by decide +kernel) (by decide +kernel) (Fl.pick_max _ (by omega))).mono ?_
      rintro e w8 ⟨rfl, m2, rfl⟩
      go_wp2_with fail
      refine (inf_pos _).mono ?_
      rintro e w9 ⟨rfl, rfl⟩
      have oi : FloatKind.f64.format.order 9218868437227405312 9218868437227405312 = some .eq := by decide +kernel
      have o70 : FloatKind.f64.format.order (p2 70) (p2 70) = some .eq := by rw [ord_p2 _ _ (by omega) (by omega), if_neg (by omega), if_pos rfl]
      have o100 : FloatKind.f64.format.order (p2 100) (p2 100) = some .eq := by rw [ord_p2 _ _ (by omega) (by omega), if_neg (by omega), if_pos rfl]
      have o289 : FloatKind.f64.format.order (p2 289) (p2 289) = some .eq := by rw [ord_p2 _ _ (by omega) (by omega), if_neg (by omega), if_pos rfl]
      go_wp2_with fail
      refine (left_any (wr.heap.size + 1) (p2 70) 0 (by omega) (by omega) _ (pb_drewN HJ4.out m2)).mono ?_
      rw [big_left]
      rintro e w9 ⟨rfl, m3, rfl⟩
      go_wp2_with fail
      refine (ldexp_any 70 (by omega) _).mono ?_
      rintro e w9 ⟨rfl, rfl⟩
      go_wp2_with fail
      refine (spent_nil _).mono ?_
      rintro e w9 ⟨rfl, rfl⟩
      go_wp2_with fail
      refine (left_nil _).mono ?_
      rintro e w9 ⟨rfl, rfl⟩
      go_wp2_with fail
      refine (over_nil _).mono ?_
      rintro e w9 ⟨rfl, m4, rfl⟩
      go_wp2_with fail
      refine (bound_any (0) (by omega) _).mono ?_
      rw [show p2 (bE (0)) = p2 100 from rfl]
      rintro e w9 ⟨rfl, rfl⟩
      go_wp2_with fail
      refine (ldexp_any 100 (by omega) _).mono ?_
      rintro e w9 ⟨rfl, rfl⟩
      go_wp2_with fail
      refine (bound_any (-5) (by omega) _).mono ?_
      rw [show p2 (bE (-5)) = p2 100 from rfl]
      rintro e w9 ⟨rfl, rfl⟩
      go_wp2_with fail
      refine (ldexp_any 100 (by omega) _).mono ?_
      rintro e w9 ⟨rfl, rfl⟩
      go_wp2_with fail
      refine (bound_any (7) (by omega) _).mono ?_
      rw [show p2 (bE (7)) = p2 289 from rfl]
      rintro e w9 ⟨rfl, rfl⟩
      go_wp2_with fail
      refine (ldexp_any 289 (by omega) _).mono ?_
      rintro e w9 ⟨rfl, rfl⟩
      go_wp2_with fail
      refine (bound_any (8) (by omega) _).mono ?_
      rw [show p2 (bE (8)) = p2 289 from rfl]
      rintro e w9 ⟨rfl, rfl⟩
      go_wp2_with fail
      refine (ldexp_any 289 (by omega) _).mono ?_
      rintro e w9 ⟨rfl, rfl⟩
      go_wp2_with fail
      refine (awake_any _).mono ?_
      rintro e w9 ⟨rfl, hB⟩
      have hz4 := HO4.size
      have hB2 : Below w.heap.size w w9 := (HO4.trans (only_drewN _ _ (m2 + m3 + m4))).below (Nat.le_refl _) (fun k hk => by omega) |>.trans (hB.mono hz4)
      clear hB
      go_wp2_with fail
      go_ret
      exact ⟨rfl, hB2⟩
end Go.Proofs.Ytjcjalobbgkcpaa
