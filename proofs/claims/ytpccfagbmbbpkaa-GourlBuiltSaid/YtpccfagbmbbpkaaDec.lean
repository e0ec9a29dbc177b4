/-
  percent.Valid: what it answers.
-/
import Derived.Test.YtpccfagbmbbpkaaPct
import Derived.Test.YtpccfagbmbbpkaaWWords
namespace Go.Proofs.Ytpccfagbmbbpkaa
open Go.RowKit Go.Proofs.YtpccfagbmbbpkaaW.PrintWords

theorem escB_toNat (l : Pc.B) : ((Pc.escB l).toNat : Int) = Pc.escX l := by
  have h := Pc.escX_bd l
  unfold Pc.escB
  rw [UInt8.toNat_ofNat_of_lt' (by show _ < 256; omega)]
  omega

set_option maxHeartbeats 400000 in
theorem valid_any (l : Pc.B) (hl : l.length ≤ 9223372036854775807) (w : World) : Calls Try.prog 20 #[.string ⟨l.toArray⟩] w fun e w' => e = .returned (.bool (Pc.valid l)) ∧ w = w' := by
  go_enter Try.func20, Try.ntmps20
  go_wp2
  go_loop [8] (fun i => ∃ k : Nat, k ≤ l.length ∧ i = .int .i64 k ∧ Hid (Pc.valid l = Pc.valid (l.drop k))) (fun i => l.length - (intOf i).toNat)
  case atStart => exact ⟨0, by omega, rfl, Lib.hid rfl⟩
  case round =>
    obtain ⟨k, hk, rfl, HV⟩ := hrel
    by_cases hlt : k < l.length
    · have hd := Lib.hid (List.drop_eq_getElem_cons hlt)
      cases hc : ((l[k].toNat : Int) == 37) <;> cases he : Pc.escOk (l.drop k)
      all_goals
        go_wp2_with (go_at_call 36; refine (escape_any _ _).mono ?_; rintro e w' ⟨rfl, rfl⟩)
        first
          | (go_round
             case rel =>
              refine ⟨k + 1, by omega, by go_num, Lib.hid (HV.out.trans ?_)⟩
              rw [hd.out] at he ⊢
              rw [b37] at hc
              simp_all [Pc.valid]
             case measure => simp [intOf]; omega)
          | (go_ret
             refine ⟨ret_bool ?_, rfl⟩
             rw [hd.out] at he
             rw [HV.out, hd.out]
             rw [b37] at hc
             simp_all [Pc.valid])
    · go_wp2
      go_ret
      refine ⟨ret_bool ?_, rfl⟩
      rw [HV.out, List.drop_eq_nil_of_le (by omega)]; rfl

end Go.Proofs.Ytpccfagbmbbpkaa
