/-
  The document's own Decode: what it answers.
-/
import Derived.Test.YtmgfhlkpmacehaaRef
import Derived.Deep.RegionWith
namespace Go.Proofs.Ytmgfhlkpmacehaa
open Go.RowKit Go.Proofs.YtmgfhlkpmacehaaW.PrintWords
theorem one_str {P : Program} (src dst e : TypeId) (hs : P.underlying src = some (.slice e)) (he : P.underlying e = some (.int .u8)) (hd : P.underlying dst = some .string) (w : World) (x : Int) :
    (convert src dst (.slice (some ⟨w.heap.size, 0, none⟩) 1 1)).run P (w.alloc (.cells #[.int .u8 x] e)).drew = .ok (.string ⟨[UInt8.ofNat x.toNat].toArray⟩) (w.alloc (.cells #[.int .u8 x] e)).drew := by
  refine run_convert_bytes_arg _ src e hs he w.heap.size 0 1 1 [x] rfl (fun i hi => ?_) dst hd
  obtain rfl : i = 0 := by omega
  exact blk_cell (blk_new w (.cells #[.int .u8 x] e)) 0
theorem take1_drop {l : List UInt8} {k : Nat} (h : k < l.length) : (l.drop k).take 1 = [l[k]] := by
  rw [List.drop_eq_getElem_cons h]
  rfl
theorem dec_step_no {l : Pc.B} {k : Nat} (h : k < l.length) (he : Pc.escOk (l.drop k) = false) : Pc.dec (l.drop k) = l[k] :: Pc.dec (l.drop (k + 1)) := by
  rw [List.drop_eq_getElem_cons h] at he ⊢
  rw [Pc.dec, he]
  simp
theorem dec_step_yes {l : Pc.B} {k : Nat} (h : k < l.length) (he : Pc.escOk (l.drop k) = true) : Pc.dec (l.drop k) = Pc.escB (l.drop k) :: Pc.dec (l.drop (k + 3)) := by
  rw [List.drop_eq_getElem_cons h] at he ⊢
  rw [Pc.dec, he, if_pos rfl, List.drop_drop]
theorem esc_refV {l : Pc.B} {k : Nat} (h : k + 2 < l.length) (he : Pc.escOk (l.drop k) = true) :
    l[k] = 37 ∧ 0 ≤ refV l[k + 1].toNat ∧ 0 ≤ refV l[k + 2].toNat ∧ refV l[k + 1].toNat = Pc.v l[k + 1].toNat ∧ refV l[k + 2].toNat = Pc.v l[k + 2].toNat ∧ Pc.escX (l.drop k) = 16 * refV l[k + 1].toNat + refV l[k + 2].toNat := by
  rw [Pc.escOk_at h] at he
  simp only [Bool.and_eq_true, beq_iff_eq] at he
  obtain ⟨⟨h0, h1⟩, h2⟩ := he
  have e1 : refV l[k + 1].toNat = Pc.v l[k + 1].toNat := by rw [refV, h1]; rfl
  have e2 : refV l[k + 2].toNat = Pc.v l[k + 2].toNat := by rw [refV, h2]; rfl
  have b1 := Pc.v_bd l[k + 1].toNat
  have b2 := Pc.v_bd l[k + 2].toNat
  exact ⟨h0, by omega, by omega, e1, e2, by rw [e1, e2]; exact Pc.escX_at h h0⟩
theorem esc_room {l : Pc.B} {k : Nat} (he : Pc.escOk (l.drop k) = true) : k + 2 < l.length := by
  rcases Nat.lt_or_ge (k + 2) l.length with h | h
  · exact h
  · rw [Pc.escOk_short (by omega)] at he
    cases he

set_option maxHeartbeats 3200000 in
theorem rdecode_any (l : Pc.B) (hl : l.length ≤ 1000000) (w : World) : Calls Try.prog 10 #[.string ⟨l.toArray⟩] w fun e w' => e = .returned (.tuple #[.string ⟨(decV l).toArray⟩, .bool (Pc.valid l)]) ∧ Below w.heap.size w w' := by
  have hos := fun W x => one_str (P := Try.prog) 45 9 5 Try.underlying45 Try.underlying5 Try.underlying9 W x
  cases hv : Pc.valid l
  · go_enter Try.func10, Try.ntmps10
    go_wp2_with (go_at_call 12; refine (rvalid_any _ (by omega) _).mono ?_; rintro e w' ⟨rfl, rfl⟩)
    go_ret2
    exact ⟨ret2_str_bool (by simp [decV, hv]) rfl, Below.refl _ _⟩
  · go_enter Try.func10, Try.ntmps10
    go_wp2_with (go_at_call 12; refine (rvalid_any _ (by omega) _).mono ?_; rintro e w' ⟨rfl, rfl⟩)
    go_loopw [4, 5] (fun s i wr => ∃ (done : List UInt8) (k : Nat), s = .string ⟨done.toArray⟩ ∧ k ≤ l.length ∧ i = .int .i64 k ∧ done.length ≤ k ∧ Below w.heap.size w wr ∧ Hid (Pc.dec l = done ++ Pc.dec (l.drop k))) (fun _ i _ => l.length - (intOf i).toNat)
    case atStart => exact ⟨[], 0, rfl, by omega, rfl, by simp, Below.refl _ _, rfl⟩
    case round =>
      obtain ⟨done, k, rfl, hk, rfl, hlen, HB, HD⟩ := hrel
      by_cases hlt : k < l.length
      · cases he : Pc.escOk (l.drop k)
        · have hS := Lib.hid (dec_step_no hlt he)
          have hT := Lib.hid (take1_drop hlt)
          go_wp2_with (go_at_call 27; refine (at_any _ _ hl (by omega) _).mono ?_; rintro e w' ⟨rfl, rfl⟩)
          go_roundw
          case rel =>
            rw [hT.out]
            refine ⟨done ++ [l[k]], k + 1, rfl, by omega, by go_num, by simp; omega, HB, ?_⟩
            show Pc.dec l = _
            rw [HD.out, hS.out]
            simp
          case measure => simp [intOf]; omega
        · have h2 := esc_room he
          have hS := Lib.hid (dec_step_yes hlt he)
          obtain ⟨-, o1, o2, -, -, hx⟩ := esc_refV h2 he
          have hX := Lib.hid hx
          have g1 := l[k + 1].toNat_lt
          have g2 := l[k + 2].toNat_lt
          have v1 := refV_bd l[k + 1].toNat
          have v2 := refV_bd l[k + 2].toNat
          clear hx
          have z1 : 0 ≤ (k : Int) + 1 := by omega
          have z2 : (k : Int) + 1 < l.length := by omega
          have z3 : 0 ≤ (k : Int) + 2 := by omega
          have z4 : (k : Int) + 2 < l.length := by omega
          have e1 : IntKind.i64.wrap ((k : Int) + 1) = (k : Int) + 1 := IntWalk.i64_in _ (by omega)
          have e2 : IntKind.i64.wrap ((k : Int) + 2) = (k : Int) + 2 := IntWalk.i64_in _ (by omega)
          have e3 : ((k : Int) + 1).toNat = k + 1 := by omega
          have e4 : ((k : Int) + 2).toNat = k + 2 := by omega
          have e5 : IntKind.i64.wrap (16 * refV l[k + 1].toNat) = 16 * refV l[k + 1].toNat := IntWalk.i64_in _ (by omega)
          have e6 : IntKind.i64.wrap (16 * refV l[k + 1].toNat + refV l[k + 2].toNat) = 16 * refV l[k + 1].toNat + refV l[k + 2].toNat := IntWalk.i64_in _ (by omega)
          have e7 : IntKind.u8.wrap (16 * refV l[k + 1].toNat + refV l[k + 2].toNat) = 16 * refV l[k + 1].toNat + refV l[k + 2].toNat := IntWalk.u8_in _ (by omega)
          have e8 : ¬ 9223372036854775807 < done.length + 1 := by omega
          go_wp2_with (go_at_call 27; refine (at_any _ _ hl (by omega) _).mono ?_; rintro e w' ⟨rfl, rfl⟩)
          go_region_with (go_at_call 22; refine (rvalue_any _ (by omega) (by omega) _).mono ?_; rintro e w' ⟨rfl, rfl⟩)
          all_goals
            go_wp2
            go_roundw
            case rel =>
              have hz := HB.size
              refine ⟨done ++ [Pc.escB (l.drop k)], k + 3, ?_, by omega, by go_num, by simp; omega, by (repeat (first | exact Below.refl _ _ | assumption | refine Below.drew ?_ | refine Below.alloc ?_ (by first | exact Nat.le_refl _ | (simp; done) | (simp; omega) | omega) _ | refine Below.setCell ?_ (by first | exact Nat.le_refl _ | (simp; done) | (simp; omega) | omega) _)), ?_⟩
              · rw [Pc.escB, hX.out]
              · show Pc.dec l = _
                rw [HD.out, hS.out]
                simp
            case measure => simp [intOf]; omega
      · go_wp2
        go_ret2
        refine ⟨ret2_str_bool ?_ rfl, HB⟩
        rw [decV, hv, if_pos rfl, HD.out, List.drop_eq_nil_of_le (by omega), Pc.dec, List.append_nil]
end Go.Proofs.Ytmgfhlkpmacehaa
