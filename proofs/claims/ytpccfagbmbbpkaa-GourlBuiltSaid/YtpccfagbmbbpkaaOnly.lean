/-
  The statements' own 'only': those bytes of a text that are in a set.
-/
import Derived.Test.YtpccfagbmbbpkaaEq
import Derived.Test.YtpccfagbmbbpkaaEnc
namespace Go.Proofs.Ytpccfagbmbbpkaa
open Go.RowKit Go.Proofs.YtpccfagbmbbpkaaW.PrintWords

theorem filter_take_succ (f : UInt8 → Bool) (l : Pc.B) (k : Nat) (h : k < l.length) : (l.take (k + 1)).filter f = (l.take k).filter f ++ if f l[k] then [l[k]] else [] := by
  rw [List.take_succ_eq_append_getElem h, List.filter_append]
  congr 1
  cases hf : f l[k] <;> simp [hf]
set_option maxHeartbeats 1600000 in
theorem only_any (l : Pc.B) (s : W4) (hs : s.Ok) (hl : l.length ≤ 1000000) (w : World) : Calls Try.prog 12 #[.string ⟨l.toArray⟩, .agg #[.int .u64 s.a, .int .u64 s.b, .int .u64 s.c, .int .u64 s.d]] w fun e w' => e = .returned (.string ⟨(l.filter fun c => s.has c.toNat).toArray⟩) ∧ Below w.heap.size w w' := by
  go_enter Try.func12, Try.ntmps12
  go_wp2
  go_loopw [5, 6] (fun v i wr => ∃ k : Nat, k ≤ l.length ∧ i = .int .i64 k ∧ wr.ownsRow (w.heap.size + 1) 5 1 v (bts ((l.take k).filter fun c => s.has c.toNat)).length (nums .u8 (bts ((l.take k).filter fun c => s.has c.toNat))) ∧ Below (w.heap.size + 1) (w.alloc (.cells #[.int .u64 s.a, .int .u64 s.b, .int .u64 s.c, .int .u64 s.d] 34)) wr) (fun _ i _ => l.length - (intOf i).toNat)
  case atStart => exact ⟨0, by omega, rfl, own_nil _ _ _ _, Below.refl _ _⟩
  case round =>
    obtain ⟨k, hk, rfl, HO, HB⟩ := hrel
    by_cases hlt : k < l.length
    · have hz : w.heap.size + 1 ≤ wr.heap.size := by have := HB.size; simp at this; omega
      have HF : FourAt w w.heap.size s wr := ⟨((Below.refl _ _).alloc (Nat.le_refl _) _).trans (HB.mono (by omega)), (HB.block _ (by omega)).trans (blk_new _ _)⟩
      have hb := l[k].toNat_lt
      have hfl : ((l.take k).filter fun c => s.has c.toNat).length ≤ k := by
        have := List.length_filter_le (fun c : UInt8 => s.has c.toNat) (l.take k)
        rw [List.length_take] at this; omega
      have hd := Lib.hid (filter_take_succ (fun c => s.has c.toNat) l k hlt)
      have i1 : (0 : Int) ≤ (k : Int) := by omega
      have i2 : (k : Int) < (l.length : Int) := by omega
      have i3 : decide (k < l.length) = true := by simp; omega
      cases hc : s.has l[k].toNat
      all_goals
        go_wp2_with fail
        go_region_held3 (fun x => FourAt w w.heap.size s x ∧ x.cell? ⟨w.heap.size, 0, none⟩ = some (.int .u64 s.a) ∧ x.cell? ⟨w.heap.size, 1, none⟩ = some (.int .u64 s.b) ∧ x.cell? ⟨w.heap.size, 2, none⟩ = some (.int .u64 s.c) ∧ x.cell? ⟨w.heap.size, 3, none⟩ = some (.int .u64 s.d)) ((first | exact ⟨HF.drew, fourAt_cells HF.drew⟩ | assumption | exact four_call ‹FourAt w _ s _ ∧ _› ‹_›)) ((go_at_call 33; refine (has_any s hs l[k].toNat (by omega) _).mono ?_; rintro e w3 ⟨rfl, B3⟩))
        obtain ⟨HG, -, -, -, -⟩ := ‹FourAt w w.heap.size s _ ∧ _›
        have HO2 := pw_own_below HO.drew B3
        have HB2 : Below (w.heap.size + 1) (w.alloc (.cells #[.int .u64 s.a, .int .u64 s.b, .int .u64 s.c, .int .u64 s.d] 34)) w3 := (Below.drew HB).trans (B3.mono hz)
        have hz2 : w.heap.size + 1 ≤ w3.heap.size := by have := B3.size; have : wr.heap.size ≤ w3.heap.size := this; omega
        clear HF HG B3 HO HB
      · go_wp2_with fail
        go_roundw
        case rel =>
          refine ⟨k + 1, by omega, by go_num, ?_, HB2⟩
          rw [hd.out]
          simp only [hc, Bool.false_eq_true, if_false, List.append_nil]
          exact HO2
        case measure => simp [intOf]; omega
      · go_wp2_with (at_builtin; refine print_append_num (w0 := w.alloc (.cells #[.int .u64 s.a, .int .u64 s.b, .int .u64 s.c, .int .u64 s.d] 34)) (w.heap.size + 1) rfl _ _ _ 5 .u8 1 rfl Try.underlying54 (by kernel_rfl) (by omega) _ (bts ((l.take k).filter fun c => s.has c.toNat)) _ rfl rfl (by exact HO2) (by exact HB2) hz2 (by rw [bts_len]; omega) ?_; intro v1 w1 HO1 HB1 hg1 hat1)
        go_roundw
        case rel =>
          refine ⟨k + 1, by omega, by go_num, ?_, HB1⟩
          rw [hd.out]
          simp only [hc, if_true]
          rw [bts_snoc]
          exact HO1
        case measure => simp [intOf]; omega
    · have hcv := own_string (P := Try.prog) Try.underlying54 Try.underlying5 Try.underlying9 HO
      rw [strOf_bts] at hcv
      go_wp2
      go_ret
      exact ⟨ret_str (by rw [List.take_of_length_le (by omega)]), ((Below.refl _ _).alloc (Nat.le_refl _) _).trans (HB.mono (by omega))⟩
end Go.Proofs.Ytpccfagbmbbpkaa
