/-
  The statements' own wake: some texts, there and back.
-/
import Derived.Test.YtmgfhlkpmacehaaEnc
import Derived.Test.YtmgfhlkpmacehaaUp
namespace Go.Proofs.Ytmgfhlkpmacehaa
open Go.RowKit Go.Proofs.YtmgfhlkpmacehaaW.PrintWords

theorem k_val : Pc.valid [37, 52, 49, 98, 37, 50, 53, 52, 49] = true := by decide
theorem k_dec : decV [37, 52, 49, 98, 37, 50, 53, 52, 49] = [65, 98, 37, 52, 49] := by
  rw [decV, k_val]
  simp [Pc.dec]
  decide
theorem k_up : Pc.upper [37, 99, 51, 37, 97, 70, 37, 122, 122, 37] = [37, 67, 51, 37, 65, 70, 37, 122, 122, 37] := by
  simp [Pc.upper]
  decide
theorem k_enc : Pc.enc (W4.range 97 122).has [97, 32, 98, 37] = [97, 37, 50, 48, 98, 37, 50, 53] := by
  decide
theorem dec_k (w : World) : Calls Try.prog 9 #[.string ⟨#[37, 52, 49, 98, 37, 50, 53, 52, 49]⟩] w fun e w' => e = .returned (.tuple #[.string ⟨#[65, 98, 37, 52, 49]⟩, .bool true]) ∧ Below w.heap.size w w' := by
  have h := decode_any [37, 52, 49, 98, 37, 50, 53, 52, 49] (by decide) w
  rw [k_dec, k_val] at h
  exact h
theorem up_k (w : World) : Calls Try.prog 16 #[.string ⟨#[37, 99, 51, 37, 97, 70, 37, 122, 122, 37]⟩] w fun e w' => e = .returned (.string ⟨#[37, 67, 51, 37, 65, 70, 37, 122, 122, 37]⟩) ∧ Below w.heap.size w w' := by
  have h := upper_any [37, 99, 51, 37, 97, 70, 37, 122, 122, 37] (by decide) w
  rw [k_up] at h
  exact h
theorem enc_k (w : World) : Calls Try.prog 13 #[.string ⟨#[97, 32, 98, 37]⟩, .agg #[.int .u64 (W4.range 97 122).a, .int .u64 (W4.range 97 122).b, .int .u64 (W4.range 97 122).c, .int .u64 (W4.range 97 122).d]] w fun e w' => e = .returned (.string ⟨#[97, 37, 50, 48, 98, 37, 50, 53]⟩) ∧ Below w.heap.size w w' := by
  have h := encode_any [97, 32, 98, 37] (W4.range 97 122) (W4.ok_range _ _) (by decide) w
  rw [k_enc] at h
  exact h
theorem hex_yes (w : World) : Calls Try.prog 20 #[.int .u8 102] w fun e w' => e = .returned (.bool true) ∧ w = w' := hex_any 102 (by omega) (by omega) w
theorem hex_no (w : World) : Calls Try.prog 20 #[.int .u8 103] w fun e w' => e = .returned (.bool false) ∧ w = w' := hex_any 103 (by omega) (by omega) w

set_option maxHeartbeats 800000 in
theorem awake_any (w : World) : Calls Try.prog 18 #[] w fun e w' => e = .returned (.bool true) ∧ Below w.heap.size w w' := by
  go_enter Try.func18, Try.ntmps18
  go_wp2_with fail
  refine (dec_k _).mono ?_
  rintro e w1 ⟨rfl, HB1⟩
  go_wp2_with fail
  refine (range_any 97 122 (by omega) (by omega) _).mono ?_
  rintro e w2 ⟨rfl, HB2⟩
  go_wp2_with fail
  refine (enc_k _).mono ?_
  rintro e w3 ⟨rfl, HB3⟩
  go_wp2_with fail
  refine (up_k _).mono ?_
  rintro e w4 ⟨rfl, HB4⟩
  go_wp2_with fail
  refine (hex_yes _).mono ?_
  rintro e w5 ⟨rfl, rfl⟩
  go_wp2_with fail
  refine (hex_no _).mono ?_
  rintro e w6 ⟨rfl, rfl⟩
  go_wp2_with fail
  go_ret
  exact ⟨rfl, HB1.trans ((HB2.mono HB1.size).trans ((HB3.mono (by have := HB1.size; have := HB2.size; omega)).trans (HB4.mono (by have := HB1.size; have := HB2.size; have := HB3.size; omega))))⟩
end Go.Proofs.Ytmgfhlkpmacehaa
