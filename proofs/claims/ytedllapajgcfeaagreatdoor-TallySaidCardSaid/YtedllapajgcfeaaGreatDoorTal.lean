/-
  The order of tally (Compare): its parts, walked. Its plain words stand in Rk.
-/
import Derived.Test.YtedllapajgcfeaaGreatDoorWWords
import Derived.Test.YtedllapajgcfeaaGreatDoorOrd
import Derived.Test.YtedllapajgcfeaaGreatDoorChecked
import Derived.Outline
import Derived.Lib.Hide
namespace Go.Proofs.YtedllapajgcfeaaGreatDoor
open Go.RowKit Go.Proofs.YtedllapajgcfeaaGreatDoorW.PrintWords

def nanB (x : Nat) : Bool := decide (Fl.ex x = 2047) && !decide (Fl.fr x = 0)
theorem nanB_iff (x : Nat) : nanB x = true ↔ Fl.Nan x := by unfold nanB Fl.Nan; simp
theorem ordself_no {x : Nat} (h : nanB x = false) : FloatKind.f64.format.order x x = some .eq := by
  have hn : ¬ Fl.Nan x := fun e => by rw [(nanB_iff x).2 e] at h; exact Bool.noConfusion h
  have := Fl.ord_key hn hn
  rw [show compare (Fl.key x) (Fl.key x) = .eq by show compareOfLessAndEq _ _ = _; unfold compareOfLessAndEq; rw [if_neg (by omega), if_pos rfl]] at this
  exact this
theorem ordself_nan {x : Nat} (h : nanB x = true) : FloatKind.f64.format.order x x = none := Fl.ord_nan (Or.inl ((nanB_iff x).1 h))
theorem ord_some {x y : Nat} (h : nanB x = false) (h' : nanB y = false) : FloatKind.f64.format.order x y = some (compare (Fl.key x) (Fl.key y)) := by
  refine Fl.ord_key ?_ ?_
  · exact fun e => by rw [(nanB_iff x).2 e] at h; exact Bool.noConfusion h
  · exact fun e => by rw [(nanB_iff y).2 e] at h'; exact Bool.noConfusion h'
theorem run_bits (b : Nat) (w : World) : (callFunc 35 #[.float .f64 b]).run Tryz.prog w = .ok (.value (.int .u64 b)) w := by
  rw [run_callFunc_extern Tryz.func35 (by kernel_rfl) (by kernel_rfl) (by kernel_rfl) (e := Extern.MathFloatBits.float64bits) (by kernel_rfl)]
  rfl
theorem run_frombits (n : Int) (w : World) : (callFunc 34 #[.int .u64 n]).run Tryz.prog w = .ok (.value (.float .f64 n.toNat)) w := by
  rw [run_callFunc_extern Tryz.func34 (by kernel_rfl) (by kernel_rfl) (by kernel_rfl) (e := Extern.MathFloatBits.float64frombits) (by kernel_rfl)]
  rfl
attribute [go_sem] run_bits run_frombits

theorem isNaNf_any (x : Nat) (w : World) : Calls Tryz.prog 41 #[.float .f64 x] w fun e w' => e = .returned (.bool (nanB x)) ∧ w = w' := by
  cases h : nanB x
  · have h1 := ordself_no h
    go_enter Tryz.func41, Tryz.ntmps41
    go_wp2
    go_ret
    exact ⟨rfl, rfl⟩
  · have h1 := ordself_nan h
    go_enter Tryz.func41, Tryz.ntmps41
    go_wp2
    go_ret
    exact ⟨rfl, rfl⟩
theorem isNaNi_any (x : Int) (w : World) : Calls Tryz.prog 42 #[.int .i64 x] w fun e w' => e = .returned (.bool false) ∧ w = w' := by
  go_enter Tryz.func42, Tryz.ntmps42
  go_wp2
  go_ret
  exact ⟨rfl, rfl⟩
def oi : Ordering → Int
  | .lt => -1
  | .eq => 0
  | .gt => 1
def fc (a b : Nat) : Int := if nanB a then (if nanB b then 0 else -1) else if nanB b then 1 else oi (compare (Fl.key a) (Fl.key b))
set_option maxHeartbeats 800000 in
theorem cmpF_any (a b : Nat) (w : World) : Calls Tryz.prog 23 #[.float .f64 a, .float .f64 b] w fun e w' => e = .returned (.int .i64 (fc a b)) ∧ w = w' := by
  have Ha := Lib.hid (isNaNf_any a)
  have Hb := Lib.hid (isNaNf_any b)
  cases ha : nanB a
  · cases hb : nanB b
    · have ho := ord_some ha hb
      have hs : FloatKind.f64.format.order b a = some (compare (Fl.key b) (Fl.key a)) := ord_some hb ha
      rw [ha] at Ha
      rw [hb] at Hb
      have hfc : Hid (fc a b = oi (compare (Fl.key a) (Fl.key b))) := Lib.hid (by unfold fc; rw [ha, hb]; rfl)
      clear hs ha hb
      cases hc : compare (Fl.key a) (Fl.key b)
      all_goals
        rw [hc] at ho
        rw [hc] at hfc
        clear hc
        rw [hfc.out]
        clear hfc
        go_enter Tryz.func23, Tryz.ntmps23
        go_wp2_with fail
        refine (Ha.out _).mono ?_
        rintro e w1 ⟨rfl, rfl⟩
        go_wp2_with fail
        refine (Hb.out _).mono ?_
        rintro e w1 ⟨rfl, rfl⟩
        clear Ha Hb
        go_wp2_with fail
        go_ret
        exact ⟨rfl, rfl⟩
    · rw [ha] at Ha
      rw [hb] at Hb
      rw [show fc a b = 1 by unfold fc; rw [ha, hb]; rfl]
      clear ha hb
      go_enter Tryz.func23, Tryz.ntmps23
      go_wp2_with fail
      refine (Ha.out _).mono ?_
      rintro e w1 ⟨rfl, rfl⟩
      go_wp2_with fail
      refine (Hb.out _).mono ?_
      rintro e w1 ⟨rfl, rfl⟩
      clear Ha Hb
      go_wp2_with fail
      go_ret
      exact ⟨rfl, rfl⟩
  · cases hb : nanB b
    all_goals
      rw [ha] at Ha
      rw [hb] at Hb
      have hfc : Hid (fc a b = if nanB b then 0 else -1) := Lib.hid (by unfold fc; rw [ha]; rfl)
      rw [hb] at hfc
      rw [hfc.out]
      clear ha hb hfc
      go_enter Tryz.func23, Tryz.ntmps23
      go_wp2_with fail
      refine (Ha.out _).mono ?_
      rintro e w1 ⟨rfl, rfl⟩
      go_wp2_with fail
      refine (Hb.out _).mono ?_
      rintro e w1 ⟨rfl, rfl⟩
      clear Ha Hb
      go_wp2_with fail
      go_ret
      exact ⟨rfl, rfl⟩
def ci (x y : Int) : Int := if x < y then -1 else if y < x then 1 else 0
theorem cmpI_any (x y : Int) (w : World) : Calls Tryz.prog 24 #[.int .i64 x, .int .i64 y] w fun e w' => e = .returned (.int .i64 (ci x y)) ∧ w = w' := by
  have Hn := Lib.hid isNaNi_any
  have hc : Hid (ci x y = if x < y then -1 else if y < x then 1 else 0) := Lib.hid rfl
  rw [hc.out]
  clear hc
  rcases Int.lt_trichotomy x y with h | h | h
  all_goals
    first
    | rw [if_pos h]
    | rw [if_neg (by omega), if_neg (by omega)]
    | rw [if_neg (by omega), if_pos h]
    have i1 : decide (x < y) = decide (x < y) := rfl
    clear i1
    have i1 : (decide (x < y) = true ∧ x < y) ∨ (decide (x < y) = false ∧ ¬ x < y) := by by_cases hh : x < y <;> simp [hh]
    have i2 : (decide (y < x) = true ∧ y < x) ∨ (decide (y < x) = false ∧ ¬ y < x) := by by_cases hh : y < x <;> simp [hh]
    rcases i1 with ⟨i1, j1⟩ | ⟨i1, j1⟩
    all_goals
      rcases i2 with ⟨i2, j2⟩ | ⟨i2, j2⟩
      all_goals
        first
        | (exfalso; omega)
        | (clear j1 j2
           go_enter Tryz.func24, Tryz.ntmps24
           go_wp2_with fail
           refine (Hn.out _ _).mono ?_
           rintro e w1 ⟨rfl, rfl⟩
           go_wp2_with fail
           refine (Hn.out _ _).mono ?_
           rintro e w1 ⟨rfl, rfl⟩
           clear Hn
           go_wp2_with fail
           go_ret
           exact ⟨rfl, rfl⟩)
theorem signbit_any (x : Nat) (h : x < 18446744073709551616) (w : World) : Calls Tryz.prog 43 #[.float .f64 x] w fun e w' => e = .returned (.bool (Fl.sg x)) ∧ w = w' := by
  have hs : ∃ y : Int, IntKind.i64.wrap (x : Int) = y ∧ decide (y < 0) = Fl.sg x := by
    refine ⟨_, rfl, ?_⟩
    by_cases hx : x < 9223372036854775808
    · rw [IntWalk.i64_in _ (by omega), Fl.sg_pos hx]; simp
    · have e1 : IntKind.i64.wrap (x : Int) = (x : Int) - 18446744073709551616 := by
        simp only [IntKind.wrap]
        rw [show (2 : Int) ^ IntKind.i64.bits = 18446744073709551616 from rfl, if_pos (by rw [show IntKind.i64.signed = true from rfl, show (2 : Int) ^ (IntKind.i64.bits - 1) = 9223372036854775808 from rfl]; simp; omega)]
        omega
      rw [e1]
      have : Fl.sg x = true := by unfold Fl.sg; rw [beq_iff_eq]; omega
      rw [this]; simp; omega
  obtain ⟨y, h1, h2⟩ := hs
  go_enter Tryz.func43, Tryz.ntmps43
  go_wp2
  go_ret
  exact ⟨rfl, rfl⟩
end Go.Proofs.YtedllapajgcfeaaGreatDoor
