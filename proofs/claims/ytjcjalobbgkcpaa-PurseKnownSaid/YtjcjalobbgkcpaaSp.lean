/-
  spends: a Spend in a purse's Run: whether it came back, and what is spent then.
-/
import Derived.Test.YtjcjalobbgkcpaaRund
namespace Go.Proofs.Ytjcjalobbgkcpaa
open Go.RowKit Go.Proofs.YtjcjalobbgkcpaaW.PrintWords

theorem more_le (s : Nat) (n : Int) (hs : s ≤ 18446744073709551615) : more s n ≤ 18446744073709551615 ∧ s ≤ more s n := by unfold more; split <;> omega
/-- What is spent behind a spends. -/
def spn (b s : Nat) (n : Int) : Nat := if Fl.aff b < s then s else more s n
theorem spn_le (b s : Nat) (n : Int) (hs : s ≤ 18446744073709551615) : spn b s n ≤ 18446744073709551615 := by
  have := more_le s n hs
  unfold spn; split <;> omega

theorem cl_any (g b s : Nat) (hs : s ≤ 18446744073709551615) (n : Int) (hn : -9223372036854775808 ≤ n ∧ n ≤ 9223372036854775807) (p q : Nat) (w : World) (K : PB w g b s) (hp : w.cell? ⟨p, 0, none⟩ = some (.pointer (some ⟨g, 0, none⟩))) (hq : w.cell? ⟨q, 0, none⟩ = some (.int .i64 n)) :
    Calls Try.prog 32 #[.pointer (some ⟨p, 0, none⟩), .pointer (some ⟨q, 0, none⟩)] w fun e w' =>
    e = (if n < 1 ∨ more s n ≤ Fl.aff b then .returned (.tuple #[]) else .panicked [{ v := pan g, recovered := false }]) ∧ Only (fun k => k = g) w w' ∧ PB w' g b (more s n) := by
  have H := spend_any g b s hs n hn
  have KK := Lib.hid K
  clear K hs
  by_cases hc : n < 1 ∨ more s n ≤ Fl.aff b
  · rw [if_pos hc] at H ⊢
    clear hc
    go_enter Try.func32, Try.ntmps32
    go_wp2_with fail
    refine (H _ KK.out).mono ?_
    rintro e w' ⟨rfl, hO, hK⟩
    have HK := Lib.hid hK
    clear hK
    go_wp2_with fail
    first | (go_end0; exact ⟨rfl, hO, HK.out⟩) | exact bodyPost_ret (results_none rfl _ _ _) rfl ⟨rfl, hO, HK.out⟩
  · rw [if_neg hc] at H ⊢
    clear hc
    go_enter Try.func32, Try.ntmps32
    go_wp2_with fail
    refine (H _ KK.out).mono ?_
    rintro e w' ⟨rfl, hO, hK⟩
    have HK := Lib.hid hK
    clear hK
    go_wp2_with fail
    exact ⟨rfl, rfl, hO, HK.out⟩
theorem cl_enter (p q : Value) (w : World) : (callFunc 32 #[p, q]).run Try.prog w = .ok (.enter 32 #[p, q]) w := by
  simp [go_sem]

set_option maxHeartbeats 800000 in
theorem spends_any (g b s : Nat) (hs : s ≤ 18446744073709551615) (n : Int) (hn : -9223372036854775808 ≤ n ∧ n ≤ 9223372036854775807) (w : World) (K : PB w g b s) : Calls Try.prog 10 #[.pointer (some ⟨g, 0, none⟩), .int .i64 n] w fun e w' =>
    e = .returned (.bool (decide (spn b s n ≤ Fl.aff b))) ∧ Only (fun k => k = g) w w' ∧ PB w' g b (spn b s n) := by
  have hmf : ∀ (fn : Fn) (first cap : Array Value) (w : World), (Instr.makeFunc fn first cap).run Try.prog w = .ok (.func fn first cap) w := fun _ _ _ _ => rfl
  have hg := blk_lt K
  by_cases hov : Fl.aff b < s
  · have e1 : spn b s n = s := by unfold spn; rw [if_pos hov]
    rw [e1, decide_eq_false (by omega)]
    have KK := Lib.hid K
    have HV := Lib.hid hov
    clear K hov e1
    go_enter Try.func10, Try.ntmps10
    go_wp2_with fail
    refine (run_over g b s _ (blk_alloc (blk_alloc KK.out _) _) HV.out _).mono ?_
    rintro e w1 ⟨rfl, hO⟩
    have hO2 : Only (fun k => k = g) w w1 := (((Only.refl _ _).alloc _).alloc _).trans (hO.mono (fun _ _ h => h.elim))
    have hK2 : PB w1 g b s := hO.blk (blk_alloc (blk_alloc KK.out _) _) (fun h => h)
    have HK := Lib.hid hK2
    clear hO hK2
    go_wp2_with fail
    go_ret
    exact ⟨rfl, hO2, HK.out⟩
  · have e1 : spn b s n = more s n := by unfold spn; rw [if_neg hov]
    have hm := more_le s n hs
    rw [e1]
    have KK := Lib.hid K
    have HV := Lib.hid hov
    have H := Lib.hid (fun p q w K hp hq => cl_any g b s hs n hn p q w K hp hq)
    by_cases hc : n < 1 ∨ more s n ≤ Fl.aff b
    · have hle : more s n ≤ Fl.aff b := by
        rcases hc with hc | hc
        · unfold more; rw [if_pos hc]; omega
        · exact hc
      rw [decide_eq_true hle]
      have HC := Lib.hid hc
      clear K hov e1 hm hc hle
      go_enter Try.func10, Try.ntmps10
      go_wp2_with fail
      refine (run_ret g b s _ (blk_alloc (blk_alloc KK.out _) _) HV.out _ _ (cl_enter _ _) (fun k => k = g) (by rintro k rfl; simp; omega) (fun w2 => PB w2 g b (more s n)) (fun m => ?_)).mono ?_
      · refine (H.out _ _ _ ?_ ?_ ?_).mono ?_
        · exact blk_alloc (blk_alloc (blk_alloc (blk_alloc KK.out _) _) _) _
        · simp [go_sem]
        · simp [go_sem]
        · rintro e w' ⟨rfl, hO, hK⟩
          rw [if_pos HC.out]
          exact ⟨rfl, hO, hK⟩
      · rintro e w1 ⟨rfl, hO, w2, hK, hF⟩
        have hO2 : Only (fun k => k = g) w w1 := (((Only.refl _ _).alloc _).alloc _).trans hO
        have hK2 : PB w1 g b (more s n) := (hF g (by simp; omega)).trans hK
        have HK := Lib.hid hK2
        clear hO hK2 hK hF
        go_wp2_with fail
        go_ret
        exact ⟨rfl, hO2, HK.out⟩
    · rw [decide_eq_false (by omega)]
      have HC := Lib.hid hc
      clear K hov e1 hm hc
      go_enter Try.func10, Try.ntmps10
      go_wp2_with fail
      refine (run_own g b s _ (blk_alloc (blk_alloc KK.out _) _) HV.out _ _ (cl_enter _ _) (fun k => k = g) (by rintro k rfl; simp; omega) (fun w2 => PB w2 g b (more s n)) [] rfl (fun m => ?_)).mono ?_
      · refine (H.out _ _ _ ?_ ?_ ?_).mono ?_
        · exact blk_alloc (blk_alloc (blk_alloc (blk_alloc KK.out _) _) _) _
        · simp [go_sem]
        · simp [go_sem]
        · rintro e w' ⟨rfl, hO, hK⟩
          rw [if_neg HC.out]
          exact ⟨rfl, hO, hK⟩
      · rintro e w1 ⟨rfl, hO, w2, hK, hF⟩
        have hO2 : Only (fun k => k = g) w w1 := (((Only.refl _ _).alloc _).alloc _).trans hO
        have hK2 : PB w1 g b (more s n) := (hF g (by simp; omega)).trans hK
        have HK := Lib.hid hK2
        clear hO hK2 hK hF
        go_wp2_with fail
        go_ret
        exact ⟨rfl, hO2, HK.out⟩
end Go.Proofs.Ytjcjalobbgkcpaa
