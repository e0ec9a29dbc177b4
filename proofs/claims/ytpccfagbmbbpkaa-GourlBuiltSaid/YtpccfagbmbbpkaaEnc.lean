/-
  percent.Encode: what it answers.
-/
import Derived.Test.YtpccfagbmbbpkaaDec
import Derived.Test.YtpccfagbmbbpkaaWrd
import Derived.Deep.RegionLaw
namespace Go.Proofs.Ytpccfagbmbbpkaa
open Go.RowKit Go.Proofs.YtpccfagbmbbpkaaW.PrintWords

def digs : List UInt8 := [48, 49, 50, 51, 52, 53, 54, 55, 56, 57, 65, 66, 67, 68, 69, 70]
theorem digs_len : digs.length = 16 := rfl
theorem digs_at (c : Fin 16) : digs[c.val]'(by rw [digs_len]; exact c.isLt) = Pc.dig c.val := by revert c; decide
theorem digs_int (c : Nat) (x : Int) (h : x = c) (hc : c < 16) : ((digs[x.toNat]'(by rw [digs_len]; omega)).toNat : Int) = (Pc.dig c).toNat := by
  subst h
  have := digs_at ⟨c, hc⟩
  simp only [Int.toNat_natCast]
  rw [this]

theorem enc_take_succ (has : Nat → Bool) (l : Pc.B) (k : Nat) (h : k < l.length) : Pc.enc has (l.take (k + 1)) = Pc.enc has (l.take k) ++ Pc.enc1 has l[k] := by
  rw [List.take_succ_eq_append_getElem h, Pc.enc, Pc.enc, List.flatMap_append]
  simp

set_option maxHeartbeats 1600000 in
theorem encode_any (l : Pc.B) (s : W4) (hs : s.Ok) (hl : l.length ≤ 1000000) (w : World) : Calls Try.prog 18 #[.string ⟨l.toArray⟩, .agg #[.int .u64 s.a, .int .u64 s.b, .int .u64 s.c, .int .u64 s.d]] w fun e w' => e = .returned (.string ⟨(Pc.enc s.has l).toArray⟩) ∧ Below w.heap.size w w' := by
  go_enter Try.func18, Try.ntmps18
  go_wp2
  go_loopw [5, 10] (fun v i wr => ∃ k : Nat, k ≤ l.length ∧ i = .int .i64 k ∧ wr.ownsRow (w.heap.size + 1) 5 1 v (bts (Pc.enc s.has (l.take k))).length (nums .u8 (bts (Pc.enc s.has (l.take k)))) ∧ Below (w.heap.size + 1) (w.alloc (.cells #[.int .u64 s.a, .int .u64 s.b, .int .u64 s.c, .int .u64 s.d] 34)) wr) (fun _ i _ => l.length - (intOf i).toNat)
  case atStart => exact ⟨0, by omega, rfl, own_nil _ _ _ _, Below.refl _ _⟩
  case round =>
    obtain ⟨k, hk, rfl, HO, HB⟩ := hrel
    by_cases hlt : k < l.length
    · have hz : w.heap.size + 1 ≤ wr.heap.size := by have := HB.size; simp at this; omega
      have HK : wr.heap[w.heap.size]? = some (.cells #[.int .u64 s.a, .int .u64 s.b, .int .u64 s.c, .int .u64 s.d] 34) := (HB.block _ (by omega)).trans (blk_new _ _)
      have hc := l[k].toNat_lt
      have hE := Pc.enc_len s.has (l.take k)
      have hk3 : (Pc.enc s.has (l.take k)).length ≤ 3 * k := by rw [List.length_take] at hE; omega
      clear hE
      have HT := Lib.hid (enc_take_succ s.has l k hlt)
      have x1 : 0 ≤ (l[k].toNat : Int) / 16 := by omega
      have x2 : (l[k].toNat : Int) / 16 < 16 := by omega
      have x4 : 0 ≤ (l[k].toNat : Int) % 16 := by omega
      have x5 : (l[k].toNat : Int) % 16 < 16 := by omega
      have x3 : bits .and .u8 (l[k].toNat : Int) 15 = (l[k].toNat : Int) % 16 := by
        have := u8_and_nat l[k].toNat 15 (by omega) (by omega)
        rw [nat_mask4] at this
        rw [show ((l[k].toNat : Int) % 16) = ((l[k].toNat % 16 : Nat) : Int) by omega]
        exact this
      by_cases hA : l[k] = 37
      · have hn : ((l[k].toNat : Int) != 37) = false := by rw [hA]; rfl
        have HA := Lib.hid hA
        clear hA HK
        have HO' := HO.drew
        have HB' := HB.drew
        have hz' : w.heap.size + 1 ≤ wr.drew.heap.size := hz
        go_wp2
        go_region_law (refine step_append_lits (w0 := w.alloc (.cells #[.int .u64 s.a, .int .u64 s.b, .int .u64 s.c, .int .u64 s.d] 34)) (w.heap.size + 1) rfl _ _ _ 5 .u8 1 rfl Try.underlying54 (by kernel_rfl) (by omega) _ (bts (Pc.enc s.has (l.take k))) [37, _, _] rfl rfl HO' HB' hz' (by rw [bts_len]; simp; omega) ?_; intro v1 w1 HO1 HB1 hg1 hat1)
        all_goals
          go_wp2
          go_roundw
          case rel =>
            refine ⟨k + 1, by omega, by go_num, ?_, HB1⟩
            have e1 : (Pc.enc1 s.has l[k]) = [37, Pc.dig (l[k].toNat / 16), Pc.dig (l[k].toNat % 16)] := by rw [Pc.enc1, HA.out]; rfl
            have d1 := digs_int (l[k].toNat / 16) ((l[k].toNat : Int) / 16) (by omega) (by omega)
            have d2 := digs_int (l[k].toNat % 16) ((l[k].toNat : Int) % 16) (by omega) (by omega)
            rw [HT.out, bts_append, e1]
            simp only [bts, List.map_cons, List.map_nil, ← d1, ← d2]
            exact HO1
          case measure => simp [intOf]; omega
      · have hn : ((l[k].toNat : Int) != 37) = true := by
          rw [bne_iff_ne]
          intro h
          apply hA
          apply UInt8.toNat_inj.mp
          show l[k].toNat = 37
          omega
        have HA := Lib.hid hA
        have c0 := blk_cell HK 0
        have c1 := blk_cell HK 1
        have c2 := blk_cell HK 2
        have c3 := blk_cell HK 3
        simp at c0 c1 c2 c3
        clear hA HK
        cases hh : s.has l[k].toNat
        · go_wp2_with (go_at_call 33; refine (has_any s hs _ (by omega) _).mono ?_; rintro e w2 ⟨rfl, HB2⟩)
          have HO2 := pw_own_below HO HB2
          have HB3 := HB.trans (HB2.mono hz)
          have HO' := HO2.drew
          have HB' := HB3.drew
          have hz' : w.heap.size + 1 ≤ w2.drew.heap.size := by have := HB2.size; simp; omega
          clear c0 c1 c2 c3
          go_region_law (refine step_append_lits (w0 := w.alloc (.cells #[.int .u64 s.a, .int .u64 s.b, .int .u64 s.c, .int .u64 s.d] 34)) (w.heap.size + 1) rfl _ _ _ 5 .u8 1 rfl Try.underlying54 (by kernel_rfl) (by omega) _ (bts (Pc.enc s.has (l.take k))) [37, _, _] rfl rfl HO' HB' hz' (by rw [bts_len]; simp; omega) ?_; intro v1 w1 HO1 HB1 hg1 hat1)
          all_goals
            go_wp2
            go_roundw
            case rel =>
              refine ⟨k + 1, by omega, by go_num, ?_, HB1⟩
              have e1 : (Pc.enc1 s.has l[k]) = [37, Pc.dig (l[k].toNat / 16), Pc.dig (l[k].toNat % 16)] := by rw [Pc.enc1, hh]; simp
              have d1 := digs_int (l[k].toNat / 16) ((l[k].toNat : Int) / 16) (by omega) (by omega)
              have d2 := digs_int (l[k].toNat % 16) ((l[k].toNat : Int) % 16) (by omega) (by omega)
              rw [HT.out, bts_append, e1]
              simp only [bts, List.map_cons, List.map_nil, ← d1, ← d2]
              exact HO1
            case measure => simp [intOf]; omega
        · go_wp2_with (first | (go_at_call 33; refine (has_any s hs _ (by omega) _).mono ?_; rintro e w2 ⟨rfl, HB2⟩; have HO2 := pw_own_below HO HB2; have HB3 := HB.trans (HB2.mono hz); have hz' : w.heap.size + 1 ≤ w2.heap.size := (by have := HB2.size; omega)) | (at_builtin; refine append_lits (w0 := w.alloc (.cells #[.int .u64 s.a, .int .u64 s.b, .int .u64 s.c, .int .u64 s.d] 34)) (w.heap.size + 1) rfl _ _ _ 5 .u8 1 rfl Try.underlying54 (by kernel_rfl) (by omega) _ (bts (Pc.enc s.has (l.take k))) [_] rfl rfl (by assumption) (by assumption) (by assumption) (by rw [bts_len]; simp; omega) ?_; intro v1 w1 HO1 HB1 hg1 hat1))
          go_roundw
          case rel =>
            refine ⟨k + 1, by omega, by go_num, ?_, HB1⟩
            have e1 : (Pc.enc1 s.has l[k]) = [l[k]] := by rw [Pc.enc1, hh]; simp [HA.out]
            rw [HT.out, bts_append, e1]
            exact HO1
          case measure => simp [intOf]; omega
    · have hcv := own_string (P := Try.prog) Try.underlying54 Try.underlying5 Try.underlying9 HO
      rw [strOf_bts] at hcv
      go_wp2
      go_ret
      exact ⟨ret_str (by rw [List.take_of_length_le (by omega)]), ((Below.refl _ _).alloc (Nat.le_refl _) _).trans (HB.mono (by omega))⟩
end Go.Proofs.Ytpccfagbmbbpkaa
