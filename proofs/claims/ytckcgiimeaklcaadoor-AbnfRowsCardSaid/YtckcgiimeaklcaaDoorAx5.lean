/-
  The reader's hex: walked.
-/
import Derived.Test.YtckcgiimeaklcaaDoorAvl
namespace Go.Proofs.YtckcgiimeaklcaaDoor
set_option linter.unusedVariables false
set_option linter.unusedSimpArgs false
open Go.RowKit Go.Proofs.YtckcgiimeaklcaaDoorW.PrintWords
open Ab (T El R Rs sz rootI post els root hasR szs)
theorem hv_lt {c : UInt8} {m : Nat} (h : Ab.hv c = some m) : m < 16 := by
  unfold Ab.hv at h
  split at h
  · injection h with h; omega
  · split at h
    · injection h with h; omega
    · split at h
      · injection h with h; omega
      · cases h
theorem hx_fin : ∀ m n : Fin 16, bits BinOp.or IntKind.i64 ((m.val : Int) * 16) (n.val : Int) = ((16 * m.val + n.val : Nat) : Int) := by decide +kernel
theorem hx_or {m n : Nat} (hm : m < 16) (hn : n < 16) : bits BinOp.or IntKind.i64 ((m : Int) * 16) (n : Int) = ((16 * m + n : Nat) : Int) := hx_fin ⟨m, hm⟩ ⟨n, hn⟩
section
variable {w0 w : World} {base gg gr bm : Nat} {l : List UInt8} {ln : Int} {op : Nat} {es : List El} {ls : List Int} {rs : Rs} {vE vL : Value}
def OutHex (w : World) (base gg gr bm : Nat) (ln : Int) (op : Nat) (es : List El) (ls : List Int) (rs : Rs) (vE vL : Value) (res : Option (Nat × List UInt8)) (e : Ending) (w' : World) : Prop :=
  match res with
  | some (x, l') => e = .returned (.int .i64 x) ∧ RSv w' base gg gr bm l' ln op es ls rs vE vL ∧ Kp base gg bm w w'
  | none => e = .panicked (flt 8) ∧ Kp base gg bm w w'
set_option maxRecDepth 100000 in
set_option maxHeartbeats 3200000 in
theorem hex_any (h : RSv w base gg gr bm l ln op es ls rs vE vL) : Calls Tryd.prog 66 #[.pointer (some ⟨gr, 0, none⟩)] w (OutHex w base gg gr bm ln op es ls rs vE vL (Ab.hex l)) := by
  have H := Lib.hid h
  obtain ⟨c0, c1, c2, c3⟩ := h.cells
  have f1 := h.ice 1
  clear h
  rcases l with _ | ⟨a, _ | ⟨b, r⟩⟩
  · go_enter Tryd.func66, Tryd.ntmps66
    go_wp2_with fail
    refine (fails_any 8).mono ?_
    rintro e w1 ⟨rfl, rfl⟩
    exact ⟨rfl, rfl, Kp.refl _ _ _ _⟩
  · go_enter Tryd.func66, Tryd.ntmps66
    go_wp2_with fail
    refine (fails_any 8).mono ?_
    rintro e w1 ⟨rfl, rfl⟩
    exact ⟨rfl, rfl, Kp.refl _ _ _ _⟩
  · have t1 : decide ((2 : Int) ≤ ((a :: b :: r).length : Int)) = true := decide_eq_true (by simp only [List.length_cons]; omega)
    have t2 : decide ((2 : Int) ≤ (r.length : Int) + 1 + 1) = true := decide_eq_true (by omega)
    have t3 : ((r.length : Int) + 1 + 1 < 2) = False := eq_false (by omega)
    clear t3
    cases ha : Ab.hv a with
    | none =>
      have HE : Hid (Ab.hex (a :: b :: r) = none) := Lib.hid (by simp [Ab.hex, ha])
      rw [HE.out]
      go_enter Tryd.func66, Tryd.ntmps66
      go_wp2_with fail
      refine (value_any a _).mono ?_
      rintro e w1 ⟨rfl, rfl⟩
      rw [ha]
      go_wp2_with fail
      refine (value_any b _).mono ?_
      rintro e w1 ⟨rfl, rfl⟩
      go_wp2_with fail
      all_goals
        refine (fails_any 8).mono ?_
        rintro e w1 ⟨rfl, rfl⟩
        exact ⟨rfl, rfl, Kp.refl _ _ _ _⟩
    | some m =>
      cases hb : Ab.hv b with
      | none =>
        have HE : Hid (Ab.hex (a :: b :: r) = none) := Lib.hid (by simp [Ab.hex, ha, hb])
        rw [HE.out]
        go_enter Tryd.func66, Tryd.ntmps66
        go_wp2_with fail
        refine (value_any a _).mono ?_
        rintro e w1 ⟨rfl, rfl⟩
        rw [ha]
        go_wp2_with fail
        refine (value_any b _).mono ?_
        rintro e w1 ⟨rfl, rfl⟩
        rw [hb]
        go_wp2_with fail
        all_goals
          refine (fails_any 8).mono ?_
          rintro e w1 ⟨rfl, rfl⟩
          exact ⟨rfl, rfl, Kp.refl _ _ _ _⟩
      | some n =>
        have HE : Hid (Ab.hex (a :: b :: r) = some (16 * m + n, r)) := Lib.hid (by simp [Ab.hex, ha, hb])
        have hm := hv_lt ha
        have hn := hv_lt hb
        have ho := hx_or hm hn
        rw [HE.out]
        go_enter Tryd.func66, Tryd.ntmps66
        go_wp2_with fail
        refine (value_any a _).mono ?_
        rintro e w1 ⟨rfl, rfl⟩
        rw [ha]
        go_wp2_with fail
        refine (value_any b _).mono ?_
        rintro e w1 ⟨rfl, rfl⟩
        rw [hb]
        go_wp2_with fail
        go_ret
        exact ⟨rfl, H.out.setS r (by simp; omega), H.out.kset (Kp.refl _ _ _ _) 1 _⟩
end
end Go.Proofs.YtckcgiimeaklcaaDoor
