/-
  percent.Upper: what it answers.
-/
import Derived.Test.YtmgfhlkpmacehaaDec
import Derived.Test.YtmgfhlkpmacehaaWrd
namespace Go.Proofs.Ytmgfhlkpmacehaa
open Go.RowKit Go.Proofs.YtmgfhlkpmacehaaW.PrintWords

theorem BRow.upd_hi {w : World} {g : Nat} {l : List UInt8} (h : BRow w g l) (k : Nat) (hk : k < l.length) {m : UInt8} (hm : Hid (l.getD k 0 = m)) (h97 : 97 ≤ m.toNat) : BRow (w.setCell ⟨g, k, none⟩ (.int .u8 ((m.toNat : Int) - 32))) g (Pc.upd k l) := by
  have e : ((m.toNat : Int) - 32) = ((Pc.up1 m).toNat : Int) := by
    have hlt := m.toNat_lt
    unfold Pc.up1
    rw [if_pos h97, UInt8.toNat_sub_of_le _ _ (by rw [UInt8.le_iff_toNat_le]; show 32 ≤ _; omega)]
    show _ = ((m.toNat - 32 : Nat) : Int)
    omega
  rw [e, Pc.upd, hm.out]
  exact h.set_ k hk _
theorem BRow.upd_lo {w : World} {g : Nat} {l : List UInt8} (h : BRow w g l) (k : Nat) (hk : k < l.length) {m : UInt8} (hm : Hid (l.getD k 0 = m)) (h97 : ¬ 97 ≤ m.toNat) : BRow w g (Pc.upd k l) := by
  have e : Pc.upd k l = l := by
    rw [Pc.upd, hm.out, Pc.up1, if_neg h97, ← hm.out]
    simp [List.getD_eq_getElem?_getD, List.getElem?_eq_getElem hk]
  rw [e]
  exact h
theorem upd_other {l : List UInt8} {k j : Nat} (h : k ≠ j) {m : UInt8} (hm : Hid (l.getD j 0 = m)) : Hid ((Pc.upd k l).getD j 0 = m) := by
  show (Pc.upd k l).getD j 0 = m
  rw [← hm.out, Pc.upd]
  simp only [List.getD_eq_getElem?_getD, List.getElem?_set_ne h]

set_option maxHeartbeats 1600000 in
theorem upper_any (l : Pc.B) (hl : l.length ≤ 1000000) (w : World) : Calls Try.prog 16 #[.string ⟨l.toArray⟩] w fun e w' => e = .returned (.string ⟨(Pc.upper l).toArray⟩) ∧ Below w.heap.size w w' := by
  have hcv0 := fun W => Lib.run_convert_string_bytes (P := Try.prog) W 9 45 5 ⟨l.toArray⟩ Try.underlying9 Try.underlying45 Try.underlying5
  go_enter Try.func16, Try.ntmps16
  go_wp2
  clear hcv0
  go_loopw [12] (fun i wr => ∃ k : Nat, k ≤ l.length ∧ i = .int .i64 k ∧ BRow wr w.heap.size (Pc.iter l l k) ∧ Below w.heap.size w wr) (fun i _ => l.length - (intOf i).toNat)
  case atStart => exact ⟨0, by omega, rfl, BRow.made _ _ _, bytes_below (Below.refl _ _) (Nat.le_refl _) _ _⟩
  case round =>
    obtain ⟨k, hk, rfl, HR, HB⟩ := hrel
    by_cases hlt : k < l.length
    · have hI := Pc.iter_len l l k
      cases he : Pc.escOk (l.drop k)
      · have hit : Pc.iter l l (k + 1) = Pc.iter l l k := by rw [Pc.iter, Pc.stepAt, he]; rfl
        have HI := Lib.hid hit
        clear hit hI
        go_wp2_with (go_at_call 26; refine (escape_any _ _).mono ?_; rintro e w' ⟨rfl, rfl⟩)
        go_roundw
        case rel => exact ⟨k + 1, by omega, by go_num, by rw [HI.out]; exact HR, HB⟩
        case measure => simp [intOf]; omega
      · obtain ⟨h1, h2⟩ : k + 1 < l.length ∧ k + 2 < l.length := by
          rw [List.drop_eq_getElem_cons hlt] at he
          obtain ⟨a, b, t', ht, _, _, _⟩ := Pc.escOk_shape he
          have := congrArg List.length ht
          simp at this
          omega
        have hit : Pc.iter l l (k + 1) = Pc.upd (k + 2) (Pc.upd (k + 1) (Pc.iter l l k)) := by rw [Pc.iter, Pc.stepAt, he]; rfl
        have HI := Lib.hid hit
        have hL := Lib.hid hI
        obtain ⟨m1, HM1, c1, f1⟩ := HR.at_ (k + 1) (by omega)
        obtain ⟨m2, HM2, c2, f2⟩ := HR.at_ (k + 2) (by omega)
        clear hit hI
        have HM3 := upd_other (k := k + 1) (by omega) HM2
        have b1 := m1.toNat_lt
        have b2 := m2.toNat_lt
        by_cases g1 : 97 ≤ m1.toNat <;> by_cases g2 : 97 ≤ m2.toNat
        all_goals
          go_wp2_with (go_at_call 26; refine (escape_any _ _).mono ?_; rintro e w' ⟨rfl, rfl⟩)
          refine wp_loop_rounds 3 ?_
          rw [rounds_succ]
          go_wp2
          rw [rounds_succ]
          go_wp2
          rw [rounds_succ]
          go_wp2
          go_roundw
          case rel =>
            refine ⟨k + 1, by omega, by go_num, ?_, by (repeat (first | exact Below.refl _ _ | assumption | refine Below.drew ?_ | refine Below.alloc ?_ (by first | exact Nat.le_refl _ | (simp; done) | (simp; omega) | omega) _ | refine Below.setCell ?_ (by first | exact Nat.le_refl _ | (simp; done) | (simp; omega) | omega) _))⟩
            rw [HI.out]
            first
              | exact (HR.upd_hi (k + 1) (by rw [hL.out]; omega) HM1 g1).upd_hi (k + 2) (by rw [Pc.upd_len, hL.out]; omega) HM3 g2
              | exact (HR.upd_hi (k + 1) (by rw [hL.out]; omega) HM1 g1).upd_lo (k + 2) (by rw [Pc.upd_len, hL.out]; omega) HM3 g2
              | exact (HR.upd_lo (k + 1) (by rw [hL.out]; omega) HM1 g1).upd_hi (k + 2) (by rw [Pc.upd_len, hL.out]; omega) HM3 g2
              | exact (HR.upd_lo (k + 1) (by rw [hL.out]; omega) HM1 g1).upd_lo (k + 2) (by rw [Pc.upd_len, hL.out]; omega) HM3 g2
          case measure => simp [intOf]; omega
    · have e : k = l.length := by omega
      subst e
      have hu := Pc.iter_upper l.length l (Nat.le_refl _)
      rw [hu] at HR
      have hul : (Pc.upper l).length = l.length := by rw [← hu, Pc.iter_len]
      have hcv := fun c => BRow.string (P := Try.prog) Try.underlying45 Try.underlying5 Try.underlying9 HR c
      rw [hul] at hcv
      clear hu hul
      go_wp2
      go_ret
      exact ⟨rfl, HB⟩
end Go.Proofs.Ytmgfhlkpmacehaa
