/-
  The document's own Encode and Upper: what they answer.
-/
import Derived.Test.YtmgfhlkpmacehaaMem
import Derived.Test.YtmgfhlkpmacehaaRefDec
namespace Go.Proofs.Ytmgfhlkpmacehaa
open Go.RowKit Go.Proofs.YtmgfhlkpmacehaaW.PrintWords

theorem digs_take1 (n : Nat) (h : n < 16) : List.take 1 (List.drop n ([48, 49, 50, 51, 52, 53, 54, 55, 56, 57, 65, 66, 67, 68, 69, 70] : List UInt8)) = [Pc.dig n] := by
  have := digs_at ⟨n, h⟩
  have e := take1_drop (l := digs) (k := n) (by rw [digs_len]; exact h)
  simp only at this
  rw [this] at e
  exact e
theorem enc1_of (has : Nat → Bool) (c : UInt8) : Pc.enc1 has c = if c != 37 && has c.toNat then [c] else [37, Pc.dig (c.toNat / 16), Pc.dig (c.toNat % 16)] := rfl
theorem b37n (c : UInt8) : ((c.toNat : Int) != 37) = (c != 37) := by rw [bne, bne, b37]

set_option maxRecDepth 100000 in
set_option maxHeartbeats 1600000 in
theorem rencode_any (l : Pc.B) (s : W4) (hl : l.length ≤ 1000000) (w : World) : Calls Try.prog 14 #[.string ⟨l.toArray⟩, .agg (memA s 256)] w fun e w' => e = .returned (.string ⟨(Pc.enc s.has l).toArray⟩) ∧ Below w.heap.size w w' := by
  go_enter Try.func14, Try.ntmps14
  go_wp2
  go_loopw [5, 6] (fun v i wr => ∃ k : Nat, k ≤ l.length ∧ i = .int .i64 k ∧ v = .string ⟨(Pc.enc s.has (l.take k)).toArray⟩ ∧ Below (w.heap.size + 1) (w.alloc (.cells (memA s 256) 30)) wr) (fun _ i _ => l.length - (intOf i).toNat)
  case atStart => exact ⟨0, by omega, rfl, rfl, Below.refl _ _⟩
  case round =>
    obtain ⟨k, hk, rfl, rfl, HB⟩ := hrel
    by_cases hlt : k < l.length
    · have hz : w.heap.size + 1 ≤ wr.heap.size := by have := HB.size; simp at this; omega
      have HK : wr.heap[w.heap.size]? = some (.cells (memA s 256) 30 (0, 0)) := (HB.block _ (by omega)).trans (blk_new _ _)
      have hc := l[k].toNat_lt
      have ck : wr.cell? ⟨w.heap.size, l[k].toNat, none⟩ = some (.bool (s.has l[k].toNat)) := by
        rw [blk_cell HK, memA_get _ _ _ (by omega)]
        have : decide (l[k].toNat < 256) = true := by simp; omega
        rw [this]; rfl
      have hE := Pc.enc_len s.has (l.take k)
      have hk3 : (Pc.enc s.has (l.take k)).length ≤ 3 * k := by rw [List.length_take] at hE; omega
      clear hE HK
      have HT := Lib.hid (enc_take_succ s.has l k hlt)
      have hT1 := Lib.hid (take1_drop hlt)
      cases hh : s.has l[k].toNat <;> cases hn : ((l[k].toNat : Int) != 37)
      all_goals
        go_wp2
        (try go_region)
        go_wp2
        go_roundw
        case rel =>
          rw [b37n] at hn
          refine ⟨k + 1, by omega, by go_num, ?_, by first | exact HB | exact HB.drew⟩
          rw [HT.out, enc1_of, hn, hh]
          first | rw [digs_take1 _ (by omega), digs_take1 _ (by omega)]; rfl | rw [hT1.out]; rfl
        case measure => simp [intOf]; omega
    · go_wp2
      go_ret
      exact ⟨ret_str (by rw [List.take_of_length_le (by omega)]), ((Below.refl _ _).alloc (Nat.le_refl _) _).trans (HB.mono (by omega))⟩

theorem up1_ok : ∀ c : Fin 256, Pc.ok (c.val : Int) = true → Pc.up1 (UInt8.ofNat c.val) = Pc.dig (Pc.v (c.val : Int)).toNat := by decide +kernel
theorem up1_dig {c : UInt8} (h : Pc.ok c.toNat = true) : Pc.up1 c = Pc.dig (Pc.v c.toNat).toNat := by
  have := up1_ok ⟨c.toNat, c.toNat_lt⟩ h
  simpa using this
theorem upper_step_no {l : Pc.B} {k : Nat} (h : k < l.length) (he : Pc.escOk (l.drop k) = false) : Pc.upper (l.drop k) = l[k] :: Pc.upper (l.drop (k + 1)) := by
  rw [List.drop_eq_getElem_cons h] at he ⊢
  rw [Pc.upper, he]
  simp
theorem upper_step_yes {l : Pc.B} {k n1 n2 : Nat} (h : k + 2 < l.length) (he : Pc.escOk (l.drop k) = true) (h1 : refV l[k + 1].toNat = n1) (h2 : refV l[k + 2].toNat = n2) :
    Pc.upper (l.drop k) = 37 :: Pc.dig n1 :: Pc.dig n2 :: Pc.upper (l.drop (k + 3)) := by
  obtain ⟨h0, _, _, e1, e2, _⟩ := esc_refV h he
  have hk := he
  rw [Pc.escOk_at h] at hk
  simp only [Bool.and_eq_true, beq_iff_eq] at hk
  obtain ⟨⟨_, o1⟩, o2⟩ := hk
  have u1 := up1_dig o1
  have u2 := up1_dig o2
  rw [← e1, h1, Int.toNat_natCast] at u1
  rw [← e2, h2, Int.toNat_natCast] at u2
  have hd1 : l.drop (k + 1) = l[k + 1] :: l[k + 2] :: l.drop (k + 3) := by
    rw [List.drop_eq_getElem_cons (show k + 1 < l.length by omega), List.drop_eq_getElem_cons (show k + 1 + 1 < l.length by omega)]
  rw [List.drop_eq_getElem_cons (show k < l.length by omega)] at he ⊢
  rw [Pc.upper, he, if_pos rfl, List.drop_drop, h0, hd1]
  simp only [List.take_succ_cons, List.take_zero, List.map_cons, List.map_nil, u1, u2]
  rfl

set_option maxRecDepth 100000 in
set_option maxHeartbeats 1600000 in
theorem rupper_any (l : Pc.B) (hl : l.length ≤ 1000000) (w : World) : Calls Try.prog 17 #[.string ⟨l.toArray⟩] w fun e w' => e = .returned (.string ⟨(Pc.upper l).toArray⟩) ∧ Below w.heap.size w w' := by
  go_enter Try.func17, Try.ntmps17
  go_wp2
  go_loopw [3, 4] (fun v i wr => ∃ (done : List UInt8) (k : Nat), v = .string ⟨done.toArray⟩ ∧ k ≤ l.length ∧ i = .int .i64 k ∧ done.length ≤ k ∧ Below w.heap.size w wr ∧ Hid (Pc.upper l = done ++ Pc.upper (l.drop k))) (fun _ i _ => l.length - (intOf i).toNat)
  case atStart => exact ⟨[], 0, rfl, by omega, rfl, by simp, Below.refl _ _, rfl⟩
  case round =>
    obtain ⟨done, k, rfl, hk, rfl, hlen, HB, HD⟩ := hrel
    by_cases hlt : k < l.length
    · cases he : Pc.escOk (l.drop k)
      · have hS := Lib.hid (upper_step_no hlt he)
        have hT := Lib.hid (take1_drop hlt)
        go_wp2_with (go_at_call 27; refine (at_any _ _ hl (by omega) _).mono ?_; rintro e w' ⟨rfl, rfl⟩)
        go_roundw
        case rel =>
          rw [hT.out]
          refine ⟨done ++ [l[k]], k + 1, rfl, by omega, by go_num, by simp; omega, HB, ?_⟩
          show Pc.upper l = _
          rw [HD.out, hS.out]
          simp
        case measure => simp [intOf]; omega
      · have h2 := esc_room he
        obtain ⟨-, o1, o2, -, -, -⟩ := esc_refV h2 he
        have v1 := refV_bd l[k + 1].toNat
        have v2 := refV_bd l[k + 2].toNat
        obtain ⟨n1, hn1⟩ := Int.eq_ofNat_of_zero_le o1
        obtain ⟨n2, hn2⟩ := Int.eq_ofNat_of_zero_le o2
        have hS := Lib.hid (upper_step_yes h2 he hn1 hn2)
        have g1 := l[k + 1].toNat_lt
        have g2 := l[k + 2].toNat_lt
        have m1 : n1 < 16 := by omega
        have m2 : n2 < 16 := by omega
        clear o1 o2 v1 v2
        go_wp2_with (first | (go_at_call 27; refine (at_any _ _ hl (by omega) _).mono ?_; rintro e w' ⟨rfl, rfl⟩) | (go_at_call 22; refine (rvalue_any _ (by omega) (by omega) _).mono ?_; rintro e w' ⟨rfl, rfl⟩))
        go_region
        all_goals
          go_wp2
          go_roundw
          case rel =>
            rw [digs_take1 _ (by omega), digs_take1 _ (by omega)]
            refine ⟨done ++ [37, Pc.dig n1, Pc.dig n2], k + 3, rfl, by omega, by go_num, by simp; omega, HB.drew, ?_⟩
            show Pc.upper l = _
            rw [HD.out, hS.out]
            simp
          case measure => simp [intOf]; omega
    · go_wp2
      go_ret
      refine ⟨ret_str ?_, HB⟩
      rw [HD.out, List.drop_eq_nil_of_le (by omega), Pc.upper, List.append_nil]
end Go.Proofs.Ytmgfhlkpmacehaa
