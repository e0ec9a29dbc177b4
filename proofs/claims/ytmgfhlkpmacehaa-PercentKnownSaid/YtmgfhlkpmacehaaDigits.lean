/-
  PercentDigits, PercentKnown: which bytes are hex digits, and the chapter's examples: the calls return true.
-/
import Derived.Test.YtmgfhlkpmacehaaDig
import Derived.Test.YtmgfhlkpmacehaaRef
import Derived.Test.YtmgfhlkpmacehaaDec
import Derived.Test.YtmgfhlkpmacehaaEnc
import Derived.Test.YtmgfhlkpmacehaaAwake
namespace Go.Proofs.Ytmgfhlkpmacehaa
open Go.RowKit Go.Proofs.YtmgfhlkpmacehaaW.PrintWords

set_option maxRecDepth 100000 in
set_option maxHeartbeats 1600000 in
theorem pdigits_any (w : World) : Calls Try.prog 7 #[] w fun e w' => e = .returned (.bool true) ∧ Below w.heap.size w w' := by
  go_enter Try.func7, Try.ntmps7
  go_wp2
  go_loopw [1] (fun i wr => ∃ k : Nat, k ≤ 256 ∧ i = .int .i64 k ∧ Below w.heap.size w wr) (fun i _ => 256 - (intOf i).toNat)
  case atStart => exact ⟨0, by omega, rfl, Below.refl _ _⟩
  case round =>
    obtain ⟨k, hk, rfl, HB⟩ := hrel
    by_cases hlt : k < 256
    · have h0 : IntKind.u8.wrap (k : Int) = (k : Int) := IntWalk.u8_in _ (by omega)
      have hh := digW_has ⟨k, hlt⟩
      have hv := Pc.v_bd k
      simp only at hh
      have hr := refV_ge (k : Int)
      have hrv : Pc.ok (k : Int) = true → refV (k : Int) = Pc.v (k : Int) := fun h => by unfold refV; rw [h]; rfl
      have hz : Pc.ok (k : Int) = false → Pc.v (k : Int) = 0 := by
        intro h
        unfold Pc.ok at h
        unfold Pc.v
        simp at h
        split
        · omega
        · split
          · omega
          · split
            · omega
            · rfl
      cases hok : Pc.ok (k : Int)
      · rw [hok] at hh hr
        have hz' := hz hok
        clear hrv hz hv
        go_wp2_with (first
          | (go_at_call 21; refine (value_any _ (by omega) (by omega) _).mono ?_; rintro e w1 ⟨he, rfl⟩; rw [hok] at he; obtain rfl := he)
          | (go_at_call 22; refine (rvalue_any _ (by omega) (by omega) _).mono ?_; rintro e w1 ⟨rfl, rfl⟩)
          | (go_at_call 20; refine (hex_any _ (by omega) (by omega) _).mono ?_; rintro e w1 ⟨he, rfl⟩; rw [hok] at he; obtain rfl := he)
          | (go_at_call 23; refine (digits_any _).mono ?_; rintro e w1 ⟨rfl, B1⟩; replace HB := bthen HB B1; clear B1)
          | (go_at_call 19; refine (has_any digW digW_ok _ (by omega) _).mono ?_; rintro e w1 ⟨he, B1⟩; rw [hh] at he; obtain rfl := he; replace HB := bthen HB B1; clear B1))
        go_roundw
        case rel => exact ⟨k + 1, by omega, by go_num, HB⟩
        case measure => simp [intOf]; omega
      · rw [hok] at hh hr
        have hz' := hrv hok
        rw [hz'] at hr
        have hw : IntKind.i64.wrap (Pc.v (k : Int)) = Pc.v (k : Int) := IntWalk.i64_in _ (by omega)
        clear hrv hz hv
        go_wp2_with (first
          | (go_at_call 21; refine (value_any _ (by omega) (by omega) _).mono ?_; rintro e w1 ⟨he, rfl⟩; rw [hok] at he; obtain rfl := he)
          | (go_at_call 22; refine (rvalue_any _ (by omega) (by omega) _).mono ?_; rintro e w1 ⟨rfl, rfl⟩)
          | (go_at_call 20; refine (hex_any _ (by omega) (by omega) _).mono ?_; rintro e w1 ⟨he, rfl⟩; rw [hok] at he; obtain rfl := he)
          | (go_at_call 23; refine (digits_any _).mono ?_; rintro e w1 ⟨rfl, B1⟩; replace HB := bthen HB B1; clear B1)
          | (go_at_call 19; refine (has_any digW digW_ok _ (by omega) _).mono ?_; rintro e w1 ⟨he, B1⟩; rw [hh] at he; obtain rfl := he; replace HB := bthen HB B1; clear B1))
        go_roundw
        case rel => exact ⟨k + 1, by omega, by go_num, HB⟩
        case measure => simp [intOf]; omega
    · go_wp2_with (first | (go_at_call 9; refine (decode_any _ (by omega) _).mono ?_; rintro e w1 ⟨rfl, B1⟩; replace HB := bthen HB B1; clear B1) | (go_at_call 11; refine (valid_any _ (by omega) _).mono ?_; rintro e w1 ⟨rfl, rfl⟩) | (go_at_call 16; refine (upper_any _ (by omega) _).mono ?_; rintro e w1 ⟨rfl, B1⟩; replace HB := bthen HB B1; clear B1) | (go_at_call 18; refine (awake_any _).mono ?_; rintro e w1 ⟨rfl, B1⟩; replace HB := bthen HB B1; clear B1))
      go_ret
      exact ⟨rfl, HB⟩

theorem d_1 : decV [37] = [] := by decide
theorem d_2 : Pc.valid [37] = false := by decide
theorem d_3 : decV [] = [] := by simp [decV, Pc.dec]
theorem d_4 : Pc.valid [] = true := by decide
theorem d_5 : Pc.valid [37, 52] = false := by decide
theorem d_6 : Pc.valid [37, 52, 49, 37, 122, 122] = false := by decide
theorem d_7 : Pc.valid [37, 50, 53, 37, 52, 49] = true := by decide
theorem d_8 : Pc.enc allW.has [195, 169] = [195, 169] := by decide +kernel
theorem d_9 : Pc.enc allW.has [37] = [37, 50, 53] := by decide +kernel
theorem allW_ok : allW.Ok := W4.ok_not _
theorem dec_k1 (w : World) : Calls Try.prog 9 #[.string ⟨#[37]⟩] w fun e w' => e = .returned (.tuple #[.string ⟨#[]⟩, .bool false]) ∧ Below w.heap.size w w' := by
  have h := decode_any [37] (by decide) w
  rw [d_1, d_2] at h
  exact h
theorem dec_k2 (w : World) : Calls Try.prog 9 #[.string ⟨#[]⟩] w fun e w' => e = .returned (.tuple #[.string ⟨#[]⟩, .bool true]) ∧ Below w.heap.size w w' := by
  have h := decode_any [] (by decide) w
  rw [d_3, d_4] at h
  exact h
theorem val_k1 (w : World) : Calls Try.prog 11 #[.string ⟨#[37, 52]⟩] w fun e w' => e = .returned (.bool false) ∧ w = w' := by
  have h := valid_any [37, 52] (by decide) w
  rw [d_5] at h
  exact h
theorem val_k2 (w : World) : Calls Try.prog 11 #[.string ⟨#[37, 52, 49, 37, 122, 122]⟩] w fun e w' => e = .returned (.bool false) ∧ w = w' := by
  have h := valid_any [37, 52, 49, 37, 122, 122] (by decide) w
  rw [d_6] at h
  exact h
theorem val_k3 (w : World) : Calls Try.prog 11 #[.string ⟨#[37, 50, 53, 37, 52, 49]⟩] w fun e w' => e = .returned (.bool true) ∧ w = w' := by
  have h := valid_any [37, 50, 53, 37, 52, 49] (by decide) w
  rw [d_7] at h
  exact h
theorem enc_k1 (w : World) : Calls Try.prog 13 #[.string ⟨#[195, 169]⟩, .agg #[.int .u64 allW.a, .int .u64 allW.b, .int .u64 allW.c, .int .u64 allW.d]] w fun e w' => e = .returned (.string ⟨#[195, 169]⟩) ∧ Below w.heap.size w w' := by
  have h := encode_any [195, 169] allW allW_ok (by decide) w
  rw [d_8] at h
  exact h
theorem enc_k2 (w : World) : Calls Try.prog 13 #[.string ⟨#[37]⟩, .agg #[.int .u64 allW.a, .int .u64 allW.b, .int .u64 allW.c, .int .u64 allW.d]] w fun e w' => e = .returned (.string ⟨#[37, 50, 53]⟩) ∧ Below w.heap.size w w' := by
  have h := encode_any [37] allW allW_ok (by decide) w
  rw [d_9] at h
  exact h
theorem v_k1 (w : World) : Calls Try.prog 21 #[.int .u8 70] w fun e w' => e = .returned (.tuple #[.int .u8 15, .bool true]) ∧ w = w' := value_any 70 (by omega) (by omega) w
theorem v_k2 (w : World) : Calls Try.prog 21 #[.int .u8 103] w fun e w' => e = .returned (.tuple #[.int .u8 0, .bool false]) ∧ w = w' := value_any 103 (by omega) (by omega) w

set_option maxHeartbeats 1600000 in
theorem pknown_any (w : World) : Calls Try.prog 8 #[] w fun e w' => e = .returned (.bool true) ∧ Below w.heap.size w w' := by
  have HB := Below.refl w.heap.size w
  go_enter Try.func8, Try.ntmps8
  go_wp2_with fail
  refine (v_k1 _).mono ?_
  rintro e w1 ⟨rfl, rfl⟩
  go_wp2_with fail
  refine (v_k2 _).mono ?_
  rintro e w1 ⟨rfl, rfl⟩
  go_wp2_with fail
  refine (dec_k1 _).mono ?_
  rintro e w1 ⟨rfl, B1⟩
  replace HB := bthen HB B1
  clear B1
  go_wp2_with fail
  refine (dec_k2 _).mono ?_
  rintro e w1 ⟨rfl, B1⟩
  replace HB := bthen HB B1
  clear B1
  go_wp2_with fail
  refine (val_k1 _).mono ?_
  rintro e w1 ⟨rfl, rfl⟩
  go_wp2_with fail
  refine (val_k2 _).mono ?_
  rintro e w1 ⟨rfl, rfl⟩
  go_wp2_with fail
  refine (val_k3 _).mono ?_
  rintro e w1 ⟨rfl, rfl⟩
  go_wp2_with fail
  refine (all_any _).mono ?_
  rintro e w1 ⟨rfl, B1⟩
  replace HB := bthen HB B1
  clear B1
  go_wp2_with fail
  refine (enc_k1 _).mono ?_
  rintro e w1 ⟨rfl, B1⟩
  replace HB := bthen HB B1
  clear B1
  go_wp2_with fail
  refine (all_any _).mono ?_
  rintro e w1 ⟨rfl, B1⟩
  replace HB := bthen HB B1
  clear B1
  go_wp2_with fail
  refine (enc_k2 _).mono ?_
  rintro e w1 ⟨rfl, B1⟩
  replace HB := bthen HB B1
  clear B1
  go_wp2_with fail
  refine (digits_any _).mono ?_
  rintro e w1 ⟨rfl, B1⟩
  replace HB := bthen HB B1
  clear B1
  go_wp2_with fail
  refine (count_any _).mono ?_
  rintro e w1 ⟨rfl, B1⟩
  replace HB := bthen HB B1
  clear B1
  go_wp2_with fail
  refine (awake_any _).mono ?_
  rintro e w1 ⟨rfl, B1⟩
  replace HB := bthen HB B1
  clear B1
  go_wp2_with fail
  go_ret
  exact ⟨rfl, HB⟩
end Go.Proofs.Ytmgfhlkpmacehaa
