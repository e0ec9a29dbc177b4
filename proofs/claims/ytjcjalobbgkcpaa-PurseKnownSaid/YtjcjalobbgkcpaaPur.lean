/-
  What the functions of package purse do, one contract each: what a budget affords, whether too much was spent, spending.
-/
import Derived.Test.YtjcjalobbgkcpaaFlt
import Derived.Test.YtjcjalobbgkcpaaWWords
import Derived.Test.YtjcjalobbgkcpaaRows
import Derived.Laws.FloatArith
import Derived.Laws.Externs
import Derived.Deep.QuietTactic
import Derived.Recover
import Derived.WalkKit
import Derived.WalkLawsBesides
import Derived.WalkSpells
import Derived.BigQuiet
import Derived.Lib.Hide
namespace Go.Proofs.Ytjcjalobbgkcpaa
open Go.RowKit Go.Proofs.YtjcjalobbgkcpaaW.PrintWords

/-! ### a world in which only some blocks have turned -/
structure Only (S : Nat → Prop) (w w' : World) : Prop where
  os : w'.os = w.os
  tape : w'.tape = w.tape
  output : w'.output = w.output
  size : w.heap.size ≤ w'.heap.size
  block : ∀ k, k < w.heap.size → ¬ S k → w'.heap[k]? = w.heap[k]?
theorem Only.refl (S : Nat → Prop) (w : World) : Only S w w := ⟨rfl, rfl, rfl, Nat.le_refl _, fun _ _ _ => rfl⟩
theorem Only.trans {S : Nat → Prop} {a b c : World} (h : Only S a b) (k : Only S b c) : Only S a c :=
  ⟨k.os.trans h.os, k.tape.trans h.tape, k.output.trans h.output, Nat.le_trans h.size k.size, fun i hi hs => (k.block i (Nat.lt_of_lt_of_le hi h.size) hs).trans (h.block i hi hs)⟩
theorem Only.mono {S T : Nat → Prop} {w w' : World} (h : Only S w w') (hT : ∀ k, k < w.heap.size → S k → T k) : Only T w w' :=
  ⟨h.os, h.tape, h.output, h.size, fun k hk hs => h.block k hk (fun g => hs (hT k hk g))⟩
theorem Only.drew {S : Nat → Prop} {a w : World} (h : Only S a w) : Only S a w.drew := ⟨h.os, h.tape, h.output, h.size, h.block⟩
theorem Only.alloc {S : Nat → Prop} {a w : World} (h : Only S a w) (o : Obj) : Only S a (w.alloc o) :=
  h.trans ⟨rfl, rfl, rfl, by simp, fun k hk _ => Below.heap_alloc _ _ _ hk⟩
theorem Only.setCell {S : Nat → Prop} {a w : World} (h : Only S a w) {p : Addr} (hp : S p.block ∨ a.heap.size ≤ p.block) (u : Value) : Only S a (w.setCell p u) :=
  ⟨h.os, h.tape, h.output, Nat.le_trans h.size (by simp [World.setCell]), fun k hk hs => (Below.heap_setCell _ _ _ _ (by
    rintro rfl
    rcases hp with g | g
    · exact hs g
    · omega)).trans (h.block k hk hs)⟩
theorem Only.ofBelow {S : Nat → Prop} {w w' : World} (h : Below w.heap.size w w') : Only S w w' := ⟨h.os, h.tape, h.output, h.size, fun k hk _ => h.block k hk⟩
theorem Only.below {S : Nat → Prop} {B : Nat} {w w' : World} (h : Only S w w') (hB : B ≤ w.heap.size) (hS : ∀ k, k < B → ¬ S k) : Below B w w' :=
  ⟨h.os, h.tape, h.output, h.size, fun k hk => h.block k (Nat.lt_of_lt_of_le hk hB) (hS k hk)⟩
theorem Only.blk {S : Nat → Prop} {w w' : World} (h : Only S w w') {g : Nat} {o : Obj} (K : w.heap[g]? = some o) (hS : ¬ S g) : w'.heap[g]? = some o := (h.block g (blk_lt K) hS).trans K

theorem ret_bool {a b : Bool} (h : a = b) : Ending.returned (.bool a) = .returned (.bool b) := by rw [h]
theorem only_put (w : World) (g i : Nat) (v : Value) : Only (fun k => k = g) w (w.setCell ⟨g, i, none⟩ v) := (Only.refl (fun k => k = g) w).setCell (p := ⟨g, i, none⟩) (Or.inl rfl) v
/-! ### Floor -/
def flo (b : Nat) : Nat := Ieee.double.write ((Ieee.double.read b).integral .down)
theorem floor_num (b : Nat) (s : Bool) (m : Nat) (i : Int) (e : FloatKind.f64.decode b = .number s m i) : Extern.MathFloor.toIntegral "math.archFloor" .down #[.float .f64 b] = pure (.float .f64 (FloatKind.f64.encode ((Ieee.Datum.number s m i).integral .down))) := by
  delta Extern.MathFloor.toIntegral
  conv => lhs; whnf
  rw [e]
theorem floor_inf (b : Nat) (s : Bool) (e : FloatKind.f64.decode b = .infinity s) : Extern.MathFloor.toIntegral "math.archFloor" .down #[.float .f64 b] = pure (.float .f64 (FloatKind.f64.encode ((Ieee.Datum.infinity s).integral .down))) := by
  delta Extern.MathFloor.toIntegral
  conv => lhs; whnf
  rw [e]
theorem run_floor (b : Nat) (hn : ¬ Fl.Nan b) (w : World) : (callFunc 41 #[.float .f64 b]).run Try.prog w = .ok (.value (.float .f64 (flo b))) w := by
  rw [run_callFunc_extern Try.func41 (by kernel_rfl) (by kernel_rfl) (by kernel_rfl) (e := Extern.MathFloor.toIntegral "math.archFloor" .down) (by kernel_rfl)]
  unfold flo
  rcases Fl.ex_cases b with h | ⟨h, h'⟩ | ⟨h, h'⟩ | h
  · rw [floor_num b _ _ _ (Fl.read_zero b h), Fl.read_zero b h]; rfl
  · rw [floor_num b _ _ _ (Fl.read_norm b h h'), Fl.read_norm b h h']; rfl
  · rw [floor_inf b _ (Fl.read_inf b h h'), Fl.read_inf b h h']; rfl
  · exact absurd h hn
theorem floor_any (b : Nat) (hn : ¬ Fl.Nan b) (w : World) : Calls Try.prog 29 #[.float .f64 b] w fun e w' => e = .returned (.float .f64 (flo b)) ∧ w = w' := by
  have hf := fun w => run_floor b hn w
  clear hn
  go_enter Try.func29, Try.ntmps29
  go_wp2
  go_ret
  exact ⟨rfl, rfl⟩
theorem flo_val (b : Nat) (hs : Fl.sg b = false) (he : Fl.ex b < 1900) : floatToIntVal .f64 (flo b) .u64 = (if Fl.whole b < 18446744073709551616 then some (Fl.whole b : Int) else none) := by
  have h1 : flo b = Fl.nw (Fl.whole b) := Fl.floor_eq b hs (by omega)
  have hf := Fl.whole_fits b he
  obtain ⟨f1, f2, f3⟩ := Fl.nw_facts _ hf
  have h2 : (FloatKind.f64.decode (Fl.nw (Fl.whole b))).toInt .zero = some (Fl.whole (Fl.nw (Fl.whole b)) : Int) := Fl.toInt_eq _ f1 f2
  rw [Fl.whole_nw _ hf] at h2
  unfold floatToIntVal
  rw [h1, h2]
  simp only
  generalize Fl.whole b = n
  have e1 : IntKind.u64.min = 0 := rfl
  have e2 : IntKind.u64.max = 18446744073709551615 := rfl
  rw [e1, e2]
  by_cases h : n < 18446744073709551616
  · rw [if_pos (by omega), if_pos h]
  · rw [if_neg (by omega), if_neg h]

/-! ### the contracts -/
set_option maxHeartbeats 800000 in
theorem affords_any (g b s : Nat) (w : World) (K : w.heap[g]? = some (.cells #[.float .f64 b, .int .u64 s] 49 (0, 0))) : Calls Try.prog 37 #[.pointer (some ⟨g, 0, none⟩)] w fun e w' => e = .returned (.int .u64 (Fl.aff b)) ∧ w = w' := by
  have c0 := blk_cell K 0
  simp at c0
  clear K
  rcases Fl.aff_cases b with ⟨h1, h2, h3⟩ | ⟨h1, h2, h3⟩ | ⟨h1, h2, h3⟩ | ⟨h1, h2, h3, h4, h5, h6⟩ | ⟨h1, h2, h3, h4, h5, h6⟩ | ⟨h1, h2, h3, h4, h5, h6⟩
  rotate_left 3
  · have g1 : FloatKind.f64.format.order b 4895412794951729152 = some .lt := h1
    have g2 : FloatKind.f64.format.order b 0 = some .gt := h2
    have hv := flo_val b h3 (by
      by_cases g : Fl.ex b < 1900
      · exact g
      · exact absurd h6 (by have := Fl.whole_big b (by omega); omega))
    rw [if_pos h6] at hv
    have hc := fun w => run_convert_float_int (P := Try.prog) w 24 32 .f64 .u64 (flo b) _ (by rw [Try.underlying24]; rfl) Try.underlying32 hv
    have hnn : ¬ Fl.Nan b := fun g => by have := g.1; omega
    rw [h5]
    clear h1 h2 h3 h4 h5 h6 hv
    go_enter Try.func37, Try.ntmps37
    go_wp2_with (go_at_call 29; refine (floor_any b hnn _).mono ?_; rintro e w' ⟨rfl, rfl⟩)
    go_ret
    exact ⟨rfl, rfl⟩
  · have g1 : FloatKind.f64.format.order b 4895412794951729152 = some .eq := h1
    have g2 : FloatKind.f64.format.order b 0 = some .gt := h2
    rw [h5]
    clear h1 h2 h3 h4 h5 h6
    go_enter Try.func37, Try.ntmps37
    go_wp2
    go_ret
    exact ⟨rfl, rfl⟩
  · have g1 : FloatKind.f64.format.order b 4895412794951729152 = some .gt := h1
    have g2 : FloatKind.f64.format.order b 0 = some .gt := h2
    rw [h5]
    clear h1 h2 h3 h4 h5 h6
    go_enter Try.func37, Try.ntmps37
    go_wp2
    go_ret
    exact ⟨rfl, rfl⟩
  · have g1 : FloatKind.f64.format.order b 4895412794951729152 = none := h1
    have g2 : FloatKind.f64.format.order b 0 = none := h2
    rw [h3]
    clear h1 h2 h3
    go_enter Try.func37, Try.ntmps37
    go_wp2
    go_ret
    exact ⟨rfl, rfl⟩
  · have g1 : FloatKind.f64.format.order b 4895412794951729152 = some .lt := h1
    have g2 : FloatKind.f64.format.order b 0 = some .lt := h2
    rw [h3]
    clear h1 h2 h3
    go_enter Try.func37, Try.ntmps37
    go_wp2
    go_ret
    exact ⟨rfl, rfl⟩
  · have g1 : FloatKind.f64.format.order b 4895412794951729152 = some .lt := h1
    have g2 : FloatKind.f64.format.order b 0 = some .eq := h2
    rw [h3]
    clear h1 h2 h3
    go_enter Try.func37, Try.ntmps37
    go_wp2
    go_ret
    exact ⟨rfl, rfl⟩

/-- A purse in block g. -/
abbrev PB (w : World) (g b s : Nat) : Prop := w.heap[g]? = some (.cells #[.float .f64 b, .int .u64 s] 49 (0, 0))
set_option maxHeartbeats 800000 in
theorem over_any (g b s : Nat) (w : World) (K : PB w g b s) : Calls Try.prog 17 #[.pointer (some ⟨g, 0, none⟩)] w fun e w' => e = .returned (.bool (decide (Fl.aff b < s))) ∧ ∃ n, w' = w.drewN n := by
  have c1 := blk_cell K 1
  simp at c1
  have hA := fun n => (affords_any g b s (w.drewN n) K).mono (fun _ _ (h : _ ∧ _) => (⟨h.1, h.2.symm⟩ : _ ∧ _))
  clear K
  go_enter Try.func17, Try.ntmps17
  go_wp2
  go_quiet ((go_at_call 37; exact Calls.quiet_of_same (hA _)))
  go_wp2
  go_ret
  refine ⟨ret_bool ?_, _, rfl⟩
  simp
theorem over_nil (w : World) : Calls Try.prog 17 #[.pointer none] w fun e w' => e = .returned (.bool false) ∧ ∃ n, w' = w.drewN n := by
  go_enter Try.func17, Try.ntmps17
  go_wp2
  go_quiet (fail)
  go_wp2
  go_ret
  exact ⟨rfl, _, rfl⟩

set_option maxHeartbeats 800000 in
theorem spent_any (g b s : Nat) (w : World) (K : PB w g b s) : Calls Try.prog 18 #[.pointer (some ⟨g, 0, none⟩)] w fun e w' => e = .returned (.int .u64 s) ∧ w = w' := by
  have c1 := blk_cell K 1
  simp at c1
  clear K
  go_enter Try.func18, Try.ntmps18
  go_wp2
  go_ret
  exact ⟨rfl, rfl⟩
theorem spent_nil (w : World) : Calls Try.prog 18 #[.pointer none] w fun e w' => e = .returned (.int .u64 0) ∧ w = w' := by
  go_enter Try.func18, Try.ntmps18
  go_wp2
  go_ret
  exact ⟨rfl, rfl⟩
theorem new_any (b : Nat) (w : World) : Calls Try.prog 9 #[.float .f64 b] w fun e w' => e = .returned (.pointer (some ⟨w.heap.size, 0, none⟩)) ∧ w' = w.alloc (.cells #[.float .f64 b, .int .u64 0] 49) := by
  go_enter Try.func9, Try.ntmps9
  go_wp2
  go_ret
  exact ⟨rfl, rfl⟩

/-- What is spent then. -/
def more (s : Nat) (n : Int) : Nat := if n < 1 then s else min (s + n.toNat) 18446744073709551615
set_option maxHeartbeats 1600000 in
theorem spend_any (g b s : Nat) (hs : s ≤ 18446744073709551615) (n : Int) (hn : -9223372036854775808 ≤ n ∧ n ≤ 9223372036854775807) (w : World) (K : PB w g b s) : Calls Try.prog 20 #[.pointer (some ⟨g, 0, none⟩), .int .i64 n] w fun e w' =>
    e = (if n < 1 ∨ more s n ≤ Fl.aff b then .returned (.tuple #[]) else .panicked [{ v := .iface 22 (.pointer (some ⟨g, 0, none⟩)), recovered := false }]) ∧ Only (fun k => k = g) w w' ∧ PB w' g b (more s n) := by
  by_cases h1 : n < 1
  · have e1 : more s n = s := by unfold more; rw [if_pos h1]
    rw [if_pos (Or.inl h1), e1]
    have KK := Lib.hid K
    clear K e1
    go_enter Try.func20, Try.ntmps20
    go_wp2
    refine bodyPost_ret (results_none rfl _ _ _) rfl ⟨rfl, Only.refl _ _, KK.out⟩
  · have c1 := blk_cell K 1
    have f1 := blk_frozen K 1
    simp at c1
    have hw1 : IntKind.u64.wrap n = n := IntWalk.u64_in _ (by omega)
    have hw2 : IntKind.u64.wrap (18446744073709551615 - (s : Int)) = 18446744073709551615 - (s : Int) := IntWalk.u64_in _ (by omega)
    have hm : more s n = min (s + n.toNat) 18446744073709551615 := by unfold more; rw [if_neg h1]
    have h1' : ¬ n < 1 := by omega
    by_cases hov : Fl.aff b < more s n
    · rw [if_neg (by rintro (g1 | g1) <;> omega)]
      by_cases h2 : n ≤ 18446744073709551615 - (s : Int)
      · have e1 : more s n = s + n.toNat := by omega
        have hw3 : IntKind.u64.wrap ((s : Int) + n) = (s : Int) + n := IntWalk.u64_in _ (by omega)
        have KK := Lib.hid K
        have HV := Lib.hid hov
        clear K hm hov h1
        go_enter Try.func20, Try.ntmps20
        go_wp2
        go_region
        have hO : Only (fun k => k = g) w (w.setCell ⟨g, 1, none⟩ (.int .u64 ((s : Int) + n))).drew := (only_put _ _ _ _).drew
        have hK : PB (w.setCell ⟨g, 1, none⟩ (.int .u64 ((s : Int) + n))).drew g b (more s n) := by
          have := blk_set KK.out 1 (.int .u64 ((s : Int) + n))
          rw [e1]
          show (w.setCell ⟨g, 1, none⟩ (.int .u64 ((s : Int) + n))).heap[g]? = _
          rw [this]
          have : ((s : Int) + n) = ((s + n.toNat : Nat) : Int) := by omega
          rw [this]
          rfl
        generalize (w.setCell ⟨g, 1, none⟩ (.int .u64 ((s : Int) + n))).drew = W at hO hK ⊢
        clear KK c1 f1 hw1 hw2 hw3 h2 e1 hs hn
        go_wp2_with fail
        refine (over_any g b _ _ hK).mono ?_
        rw [decide_eq_true HV.out]
        rintro e w1 ⟨rfl, m, rfl⟩
        go_wp2_with fail
        exact ⟨rfl, rfl, hO.trans ⟨rfl, rfl, rfl, Nat.le_refl _, fun _ _ _ => rfl⟩, hK⟩
      · have e1 : more s n = 18446744073709551615 := by omega
        have hw3 : IntKind.u64.wrap ((s : Int) + (18446744073709551615 - (s : Int))) = 18446744073709551615 := by
          rw [show (s : Int) + (18446744073709551615 - (s : Int)) = 18446744073709551615 from by omega]; rfl
        have KK := Lib.hid K
        have HV := Lib.hid hov
        clear K hm hov h1
        go_enter Try.func20, Try.ntmps20
        go_wp2
        go_region
        have hO : Only (fun k => k = g) w (w.setCell ⟨g, 1, none⟩ (.int .u64 (18446744073709551615))).drew := (only_put _ _ _ _).drew
        have hK : PB (w.setCell ⟨g, 1, none⟩ (.int .u64 (18446744073709551615))).drew g b (more s n) := by
          have := blk_set KK.out 1 (.int .u64 (18446744073709551615))
          rw [e1]
          show (w.setCell ⟨g, 1, none⟩ (.int .u64 (18446744073709551615))).heap[g]? = _
          rw [this]
          have : (18446744073709551615) = ((18446744073709551615 : Nat) : Int) := by omega
          rw [this]
          rfl
        generalize (w.setCell ⟨g, 1, none⟩ (.int .u64 (18446744073709551615))).drew = W at hO hK ⊢
        clear KK c1 f1 hw1 hw2 hw3 h2 e1 hs hn
        go_wp2_with fail
        refine (over_any g b _ _ hK).mono ?_
        rw [decide_eq_true HV.out]
        rintro e w1 ⟨rfl, m, rfl⟩
        go_wp2_with fail
        exact ⟨rfl, rfl, hO.trans ⟨rfl, rfl, rfl, Nat.le_refl _, fun _ _ _ => rfl⟩, hK⟩
    · rw [if_pos (Or.inr (by omega))]
      by_cases h2 : n ≤ 18446744073709551615 - (s : Int)
      · have e1 : more s n = s + n.toNat := by omega
        have hw3 : IntKind.u64.wrap ((s : Int) + n) = (s : Int) + n := IntWalk.u64_in _ (by omega)
        have KK := Lib.hid K
        have HV := Lib.hid hov
        clear K hm hov h1
        go_enter Try.func20, Try.ntmps20
        go_wp2
        go_region
        have hO : Only (fun k => k = g) w (w.setCell ⟨g, 1, none⟩ (.int .u64 ((s : Int) + n))).drew := (only_put _ _ _ _).drew
        have hK : PB (w.setCell ⟨g, 1, none⟩ (.int .u64 ((s : Int) + n))).drew g b (more s n) := by
          have := blk_set KK.out 1 (.int .u64 ((s : Int) + n))
          rw [e1]
          show (w.setCell ⟨g, 1, none⟩ (.int .u64 ((s : Int) + n))).heap[g]? = _
          rw [this]
          have : ((s : Int) + n) = ((s + n.toNat : Nat) : Int) := by omega
          rw [this]
          rfl
        generalize (w.setCell ⟨g, 1, none⟩ (.int .u64 ((s : Int) + n))).drew = W at hO hK ⊢
        clear KK c1 f1 hw1 hw2 hw3 h2 e1 hs hn
        go_wp2_with fail
        refine (over_any g b _ _ hK).mono ?_
        rw [decide_eq_false HV.out]
        rintro e w1 ⟨rfl, m, rfl⟩
        go_wp2_with fail
        go_end0
        exact ⟨rfl, hO.trans ⟨rfl, rfl, rfl, Nat.le_refl _, fun _ _ _ => rfl⟩, hK⟩
      · have e1 : more s n = 18446744073709551615 := by omega
        have hw3 : IntKind.u64.wrap ((s : Int) + (18446744073709551615 - (s : Int))) = 18446744073709551615 := by
          rw [show (s : Int) + (18446744073709551615 - (s : Int)) = 18446744073709551615 from by omega]; rfl
        have KK := Lib.hid K
        have HV := Lib.hid hov
        clear K hm hov h1
        go_enter Try.func20, Try.ntmps20
        go_wp2
        go_region
        have hO : Only (fun k => k = g) w (w.setCell ⟨g, 1, none⟩ (.int .u64 (18446744073709551615))).drew := (only_put _ _ _ _).drew
        have hK : PB (w.setCell ⟨g, 1, none⟩ (.int .u64 (18446744073709551615))).drew g b (more s n) := by
          have := blk_set KK.out 1 (.int .u64 (18446744073709551615))
          rw [e1]
          show (w.setCell ⟨g, 1, none⟩ (.int .u64 (18446744073709551615))).heap[g]? = _
          rw [this]
          have : (18446744073709551615) = ((18446744073709551615 : Nat) : Int) := by omega
          rw [this]
          rfl
        generalize (w.setCell ⟨g, 1, none⟩ (.int .u64 (18446744073709551615))).drew = W at hO hK ⊢
        clear KK c1 f1 hw1 hw2 hw3 h2 e1 hs hn
        go_wp2_with fail
        refine (over_any g b _ _ hK).mono ?_
        rw [decide_eq_false HV.out]
        rintro e w1 ⟨rfl, m, rfl⟩
        go_wp2_with fail
        go_end0
        exact ⟨rfl, hO.trans ⟨rfl, rfl, rfl, Nat.le_refl _, fun _ _ _ => rfl⟩, hK⟩
theorem spend_nil (n : Int) (w : World) : Calls Try.prog 20 #[.pointer none, .int .i64 n] w fun e w' => e = .returned (.tuple #[]) ∧ w = w' := by
  go_enter Try.func20, Try.ntmps20
  go_wp2
  refine bodyPost_ret (results_none rfl _ _ _) rfl ⟨rfl, rfl⟩
end Go.Proofs.Ytjcjalobbgkcpaa
