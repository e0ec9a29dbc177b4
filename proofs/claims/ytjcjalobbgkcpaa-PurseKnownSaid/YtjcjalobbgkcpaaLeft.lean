/-
  Left, and the statements' own wake.
-/
import Derived.Test.YtjcjalobbgkcpaaLd
import Derived.Test.YtjcjalobbgkcpaaSp
namespace Go.Proofs.Ytjcjalobbgkcpaa
open Go.RowKit Go.Proofs.YtjcjalobbgkcpaaW.PrintWords

set_option maxHeartbeats 800000 in
/-- Nothing is left where too much was spent, or the budget is not above zero. -/
theorem left_none (g b s : Nat) (w : World) (K : PB w g b s) (h : Fl.aff b < s ∨ ∃ o, Ieee.double.order b 0 = o ∧ o ≠ some .gt) : Calls Try.prog 11 #[.pointer (some ⟨g, 0, none⟩)] w fun e w' => e = .returned (.float .f64 0) ∧ ∃ n, w' = w.drewN n := by
  by_cases hov : Fl.aff b < s
  · have KK := Lib.hid K
    have HV := Lib.hid hov
    clear K hov h
    go_enter Try.func11, Try.ntmps11
    go_wp2_with fail
    refine (over_any g b s _ KK.out).mono ?_
    rw [decide_eq_true HV.out]
    rintro e w1 ⟨rfl, m, rfl⟩
    go_wp2_with fail
    go_ret
    exact ⟨rfl, _, rfl⟩
  · obtain ⟨o, h1, h2⟩ := h.resolve_left hov
    have c0 := blk_cell K 0
    simp at c0
    have KK := Lib.hid K
    have HV := Lib.hid hov
    have h3 : FloatKind.f64.format.order b 0 = o := h1
    clear K hov h h1
    rcases o with _ | _ | _ | _
    rotate_right
    · exact absurd rfl h2
    all_goals
      clear h2
      go_enter Try.func11, Try.ntmps11
      go_wp2_with fail
      refine (over_any g b s _ KK.out).mono ?_
      rw [decide_eq_false HV.out]
      rintro e w1 ⟨rfl, m, rfl⟩
      go_wp2_with fail
      go_ret
      exact ⟨rfl, _, rfl⟩

/-- spends where the numbers are known. -/
theorem spends_k (g b s s' : Nat) (r : Bool) (hs : s ≤ 18446744073709551615) (n : Int) (hn : -9223372036854775808 ≤ n ∧ n ≤ 9223372036854775807) (h1 : spn b s n = s') (h2 : decide (s' ≤ Fl.aff b) = r) (w : World) (K : PB w g b s) : Calls Try.prog 10 #[.pointer (some ⟨g, 0, none⟩), .int .i64 n] w fun e w' =>
    e = .returned (.bool r) ∧ Only (fun k => k = g) w w' ∧ PB w' g b s' := by
  have := spends_any g b s hs n hn w K
  rw [h1, h2] at this
  exact this
theorem over_k (g b s : Nat) (r : Bool) (h : decide (Fl.aff b < s) = r) (w : World) (K : PB w g b s) : Calls Try.prog 17 #[.pointer (some ⟨g, 0, none⟩)] w fun e w' => e = .returned (.bool r) ∧ ∃ n, w' = w.drewN n := by
  have := over_any g b s w K
  rw [h] at this
  exact this
theorem only_drewN (S : Nat → Prop) (w : World) (n : Nat) : Only S w (w.drewN n) := ⟨rfl, rfl, rfl, Nat.le_refl _, fun _ _ _ => rfl⟩
theorem only_new {w w1 : World} {o : Obj} (h : Only (fun k => w.heap.size ≤ k) (w.alloc o) w1) : Below w.heap.size w w1 := ((Only.refl _ _).alloc o).trans h |>.below (Nat.le_refl _) (fun k hk => by omega)
theorem only_ge {a : Nat} {w w1 : World} {g : Nat} (h : Only (fun k => k = g) w w1) (hg : a ≤ g) : Only (fun k => a ≤ k) w w1 := h.mono (fun k _ e => by omega)
theorem pb_drewN {w : World} {g b s : Nat} (h : PB w g b s) (n : Nat) : PB (w.drewN n) g b s := h
set_option maxRecDepth 100000 in
theorem ord_p2 (e e' : Nat) (h : e ≤ 900) (h' : e' ≤ 900) : FloatKind.f64.format.order (p2 e) (p2 e') = some (if e < e' then .lt else if e = e' then .eq else .gt) := by
  have := Fl.ord_pos (p2 e) (p2 e') (by unfold p2; omega) (by unfold p2; omega)
  show Ieee.double.order _ _ = _
  rw [this]
  unfold p2
  congr 1
  rcases Nat.lt_trichotomy e e' with g | g | g
  · rw [if_pos (by omega), if_pos g]
  · rw [if_neg (by omega), if_pos (by omega), if_neg (by omega), if_pos g]
  · rw [if_neg (by omega), if_neg (by omega), if_neg (by omega), if_neg (by omega)]

set_option maxRecDepth 100000 in
set_option maxHeartbeats 1600000 in
theorem awake_any (w : World) : Calls Try.prog 22 #[] w fun e w' => e = .returned (.bool true) ∧ Below w.heap.size w w' := by
  have hq : FloatKind.f64.format.order (p2 127) (p2 127) = some .eq := ord_p2 127 127 (by omega) (by omega)
  have hz : FloatKind.f64.format.order 0 0 = some .eq := by decide +kernel
  go_enter Try.func22, Try.ntmps22
  go_wp2_with fail
  refine (new_any _ _).mono ?_
  rintro e w1 ⟨rfl, rfl⟩
  have hK : PB (w.alloc (.cells #[.float .f64 4612811918334230528, .int .u64 0] 49)) w.heap.size 4612811918334230528 0 := blk_new w _
  have HO := Only.refl (fun k => w.heap.size ≤ k) (w.alloc (.cells #[.float .f64 4612811918334230528, .int .u64 0] 49))
  generalize hW : w.alloc (.cells #[.float .f64 4612811918334230528, .int .u64 0] 49) = W at hK HO ⊢
  have HW := Lib.hid hW
  have KK := Lib.hid hK
  clear hW hK
  go_wp2_with fail
  refine (spends_k w.heap.size 4612811918334230528 0 2 true (by omega) 2 (by omega) (by decide +kernel) (by decide +kernel) _ KK.out).mono ?_
  rintro e w1 ⟨rfl, hO, hK⟩
  have HO1 := HO.trans (only_ge hO (Nat.le_refl _))
  have K1 := Lib.hid hK
  clear HO KK hO hK
  go_wp2_with fail
  refine (spends_k w.heap.size 4612811918334230528 2 3 false (by omega) 1 (by omega) (by decide +kernel) (by decide +kernel) _ K1.out).mono ?_
  rintro e w2 ⟨rfl, hO, hK⟩
  have HO2 := HO1.trans (only_ge hO (Nat.le_refl _))
  have K2 := Lib.hid hK
  clear HO1 K1 hO hK
  go_wp2_with fail
  refine (over_k w.heap.size 4612811918334230528 3 true (by decide +kernel) _ K2.out).mono ?_
  rintro e w3 ⟨rfl, m, rfl⟩
  go_wp2_with fail
  refine (spent_any w.heap.size 4612811918334230528 3 _ (pb_drewN K2.out m)).mono ?_
  rintro e w3 ⟨rfl, rfl⟩
  go_wp2_with fail
  refine (left_none w.heap.size 4612811918334230528 3 _ (pb_drewN K2.out m) (Or.inl (by decide +kernel))).mono ?_
  rintro e w3 ⟨rfl, m', rfl⟩
  go_wp2_with fail
  refine (bound_any 1 (by omega) _).mono ?_
  rintro e w3 ⟨rfl, rfl⟩
  go_wp2_with fail
  refine (ldexp_any 127 (by omega) _).mono ?_
  rintro e w3 ⟨rfl, rfl⟩
  go_wp2_with fail
  go_ret
  refine ⟨rfl, ?_⟩
  have h1 := only_new (HW.out ▸ HO2)
  exact h1.trans ⟨rfl, rfl, rfl, Nat.le_refl _, fun _ _ => rfl⟩
end Go.Proofs.Ytjcjalobbgkcpaa
