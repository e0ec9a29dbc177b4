/-
  percent.Valid and percent.Decode: what they answer.
-/
import Derived.Test.YtmgfhlkpmacehaaPct
import Derived.Test.YtmgfhlkpmacehaaWWords
namespace Go.Proofs.Ytmgfhlkpmacehaa
open Go.RowKit Go.Proofs.YtmgfhlkpmacehaaW.PrintWords

theorem escB_toNat (l : Pc.B) : ((Pc.escB l).toNat : Int) = Pc.escX l := by
  have h := Pc.escX_bd l
  unfold Pc.escB
  rw [UInt8.toNat_ofNat_of_lt' (by show _ < 256; omega)]
  omega

set_option maxHeartbeats 400000 in
theorem valid_any (l : Pc.B) (hl : l.length ≤ 9223372036854775807) (w : World) : Calls Try.prog 11 #[.string ⟨l.toArray⟩] w fun e w' => e = .returned (.bool (Pc.valid l)) ∧ w = w' := by
  go_enter Try.func11, Try.ntmps11
  go_wp2
  go_loop [8] (fun i => ∃ k : Nat, k ≤ l.length ∧ i = .int .i64 k ∧ Hid (Pc.valid l = Pc.valid (l.drop k))) (fun i => l.length - (intOf i).toNat)
  case atStart => exact ⟨0, by omega, rfl, Lib.hid rfl⟩
  case round =>
    obtain ⟨k, hk, rfl, HV⟩ := hrel
    by_cases hlt : k < l.length
    · have hd := Lib.hid (List.drop_eq_getElem_cons hlt)
      cases hc : ((l[k].toNat : Int) == 37) <;> cases he : Pc.escOk (l.drop k)
      all_goals
        go_wp2_with (go_at_call 26; refine (escape_any _ _).mono ?_; rintro e w' ⟨rfl, rfl⟩)
        first
          | (go_round
             case rel =>
              refine ⟨k + 1, by omega, by go_num, Lib.hid (HV.out.trans ?_)⟩
              rw [hd.out] at he ⊢
              rw [b37] at hc
              simp_all [Pc.valid]
             case measure => simp [intOf]; omega)
          | (go_ret
             refine ⟨ret_bool ?_, rfl⟩
             rw [hd.out] at he
             rw [HV.out, hd.out]
             rw [b37] at hc
             simp_all [Pc.valid])
    · go_wp2
      go_ret
      refine ⟨ret_bool ?_, rfl⟩
      rw [HV.out, List.drop_eq_nil_of_le (by omega)]; rfl

def decV (l : Pc.B) : Pc.B := if Pc.valid l then Pc.dec l else []

set_option maxHeartbeats 800000 in
theorem decode_any (l : Pc.B) (hl : l.length ≤ 1000000) (w : World) : Calls Try.prog 9 #[.string ⟨l.toArray⟩] w fun e w' => e = .returned (.tuple #[.string ⟨(decV l).toArray⟩, .bool (Pc.valid l)]) ∧ Below w.heap.size w w' := by
  cases hv : Pc.valid l
  · go_enter Try.func9, Try.ntmps9
    go_wp2_with (go_at_call 11; refine (valid_any _ (by omega) _).mono ?_; rintro e w' ⟨rfl, rfl⟩)
    go_ret2
    exact ⟨ret2_str_bool (by simp [decV, hv]) rfl, Below.refl _ _⟩
  · go_enter Try.func9, Try.ntmps9
    go_wp2_with (go_at_call 11; refine (valid_any _ (by omega) _).mono ?_; rintro e w' ⟨rfl, rfl⟩)
    go_loopw [0, 4] (fun s v wr => ∃ done rest : List UInt8, s = .string ⟨rest.toArray⟩ ∧ wr.ownsRow w.heap.size 5 1 v (bts done).length (nums .u8 (bts done)) ∧ Below w.heap.size w wr ∧ done.length + rest.length ≤ l.length ∧ Hid (Pc.dec l = done ++ Pc.dec rest)) (fun s _ _ => szOf s)
    case atStart => exact ⟨[], l, rfl, own_nil _ _ _ _, Below.refl _ _, by simp, rfl⟩
    case round =>
      obtain ⟨done, rest, rfl, HO, HB, hlen, HD⟩ := hrel
      rcases rest with _ | ⟨c, t⟩
      · have hcv := own_string (P := Try.prog) Try.underlying45 Try.underlying5 Try.underlying9 HO
        rw [strOf_bts] at hcv
        go_wp2
        go_ret2
        exact ⟨ret2_str_bool (by rw [decV, hv, if_pos rfl, HD.out, Pc.dec, List.append_nil]) rfl, HB⟩
      · have hz := HB.size
        have hc := c.toNat_lt
        cases he : Pc.escOk (c :: t)
        · go_wp2_with (go_at_call 26; refine (escape_any _ _).mono ?_; rintro e w' ⟨rfl, rfl⟩)
          go_region
          have HO' := HO.drew
          have HB' := HB.drew
          go_wp2_with (at_builtin; refine print_append_num (w0 := w) w.heap.size rfl _ _ _ 5 .u8 1 rfl Try.underlying45 (by kernel_rfl) (by omega) _ (bts done) _ rfl rfl HO' HB' hz (by rw [bts_len]; omega) ?_; intro v1 w1 HO1 HB1 hg1 hat1)
          go_roundw
          case rel =>
            refine ⟨done ++ [c], t, by simp, ?_, HB1, ?_, Lib.hid ?_⟩
            · rw [bts_snoc]; exact HO1
            · simp at hlen ⊢; omega
            · rw [HD.out, Pc.dec]; simp [he]
          case measure => simp [szOf, ByteArray.size] <;> omega
        · obtain ⟨a, b, t', rfl⟩ : ∃ a b t', t = a :: b :: t' := by
            rcases t with _ | ⟨a, _ | ⟨b, t'⟩⟩
            · simp [Pc.escOk] at he
            · simp [Pc.escOk] at he
            · exact ⟨a, b, t', rfl⟩
          have hX := Pc.escX_bd (c :: a :: b :: t')
          go_wp2_with (first | (go_at_call 26; refine (escape_any _ _).mono ?_; rintro e w' ⟨rfl, rfl⟩) | (at_builtin; refine print_append_num (w0 := w) w.heap.size rfl _ _ _ 5 .u8 1 rfl Try.underlying45 (by kernel_rfl) (by omega) _ (bts done) _ rfl rfl (by exact HO) (by exact HB) hz (by rw [bts_len]; omega) ?_; intro v1 w1 HO1 HB1 hg1 hat1))
          go_roundw
          case rel =>
            refine ⟨done ++ [Pc.escB (c :: a :: b :: t')], t', by simp, ?_, HB1, ?_, Lib.hid ?_⟩
            · rw [bts_snoc, escB_toNat]; exact HO1
            · simp at hlen ⊢; omega
            · rw [HD.out, Pc.dec]; simp [he]
          case measure => simp [szOf, ByteArray.size] <;> omega

end Go.Proofs.Ytmgfhlkpmacehaa
