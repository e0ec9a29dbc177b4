/-
  PercentBack: what is encoded is valid, holds no other bytes, and is decoded again; texts side by side are encoded side by side: the call returns true.
-/
import Derived.Test.YtmgfhlkpmacehaaDec
import Derived.Test.YtmgfhlkpmacehaaUp
import Derived.Test.YtmgfhlkpmacehaaEnc
import Derived.Test.YtmgfhlkpmacehaaAwake
import Derived.Test.YtmgfhlkpmacehaaLaw
import Derived.Test.YtmgfhlkpmacehaaTells
import Derived.Deep.DeepCutAuto
namespace Go.Proofs.Ytmgfhlkpmacehaa
open Go.RowKit Go.Proofs.YtmgfhlkpmacehaaW.PrintWords

theorem encode_join (l r : Pc.B) (s : W4) (hs : s.Ok) (hl : (l ++ r).length ≤ 1000000) (w : World) : Calls Try.prog 13 #[.string ⟨(l ++ r).toArray⟩, .agg #[.int .u64 s.a, .int .u64 s.b, .int .u64 s.c, .int .u64 s.d]] w fun e w' => e = .returned (.string ⟨(Pc.enc s.has l ++ Pc.enc s.has r).toArray⟩) ∧ Below w.heap.size w w' := by
  have := encode_any (l ++ r) s hs hl w
  rw [Pc.enc_append] at this
  exact this

set_option maxRecDepth 100000 in
set_option maxHeartbeats 1600000 in
theorem back_list (l r : Pc.B) (hl0 : l.length ≤ 9223372036854775807) (hr0 : r.length ≤ 9223372036854775807) (s : W4) (hs : s.Ok) (w : World) : Calls Try.prog 4 #[.string ⟨l.toArray⟩, .string ⟨r.toArray⟩, .agg #[.int .u64 s.a, .int .u64 s.b, .int .u64 s.c, .int .u64 s.d]] w fun e w' => e = .returned (.bool true) ∧ Below w.heap.size w w' := by
  have hml : ∃ m : Pc.B, m.length ≤ 3000 ∧ m = if 3000 < l.length then l.take 3000 else l := by
    refine ⟨_, ?_, rfl⟩
    split
    · simp; omega
    · omega
  obtain ⟨ml, hll, hel⟩ := hml
  have hmr : ∃ m : Pc.B, m.length ≤ 3000 ∧ m = if 3000 < r.length then r.take 3000 else r := by
    refine ⟨_, ?_, rfl⟩
    split
    · simp; omega
    · omega
  obtain ⟨mr, hlr, her⟩ := hmr
  obtain ⟨e1, e2, e3, e4, e5⟩ := Pc.enc_laws s.has ml
  have e6 := Pc.enc_append s.has ml mr
  have e7 := Pc.enc_len s.has ml
  have e8 := Pc.enc_len s.has mr
  have e9 : decV (Pc.enc s.has ml) = ml := by unfold decV; rw [e1, e2]; rfl
  have e10 : ¬ (9223372036854775807 < ml.length + mr.length) := by omega
  have e11 : ¬ (9223372036854775807 < (Pc.enc s.has ml).length + (Pc.enc s.has mr).length) := by omega
  have e12 : (ml ++ mr).length ≤ 6000 := by rw [List.length_append]; omega
  have e13 : IntKind.i64.wrap (3 * (ml.length : Int)) = 3 * (ml.length : Int) := IntWalk.i64_in _ (by omega)
  have E5 := Lib.hid e5
  clear e5 e2
  go_enter Try.func4, Try.ntmps4
  go_upto_if 13 with (fail)
  go_cut [0] (fun sx wx => sx = .string ⟨ml.toArray⟩ ∧ wx = w.alloc (.cells #[.int .u64 s.a, .int .u64 s.b, .int .u64 s.c, .int .u64 s.d] 24))
  case first =>
    go_wp2_with fail
    all_goals
      go_meet
      case rel =>
        refine ⟨?_, rfl⟩
        by_cases hq : 3000 < l.length
        · rw [if_pos hq] at hel
          first | (rw [hel]; done) | (exfalso; omega)
        · rw [if_neg hq] at hel
          first | (rw [hel]; done) | (exfalso; omega)
  obtain ⟨rfl, rfl⟩ := hcut
  go_upto_if 18 with (fail)
  go_cut [1] (fun sx wx => sx = .string ⟨mr.toArray⟩ ∧ wx = w.alloc (.cells #[.int .u64 s.a, .int .u64 s.b, .int .u64 s.c, .int .u64 s.d] 24))
  case first =>
    go_wp2_with fail
    all_goals
      go_meet
      case rel =>
        refine ⟨?_, rfl⟩
        by_cases hq : 3000 < r.length
        · rw [if_pos hq] at her
          first | (rw [her]; done) | (exfalso; omega)
        · rw [if_neg hq] at her
          first | (rw [her]; done) | (exfalso; omega)
  obtain ⟨rfl, rfl⟩ := hcut
  clear hel her hl0 hr0
  go_wp2_with fail
  refine (encode_any _ s hs (by omega) _).mono ?_
  rintro e w1 ⟨rfl, B1⟩
  go_wp2_with fail
  refine (decode_any _ (by omega) _).mono ?_
  rintro e w2 ⟨rfl, B2⟩
  have HF : FourIn w s w2 := (FourIn.start B1).call B2
  clear B1 B2
  rw [e1, e9]
  go_upto_region 7 with (fail)
  go_cut [53] (fun c wx => c = .bool false ∧ FourIn w s wx)
  case first =>
    go_region_held3 (fun x => FourIn w s x ∧ x.cell? ⟨w.heap.size, 0, none⟩ = some (.int .u64 s.a) ∧ x.cell? ⟨w.heap.size, 1, none⟩ = some (.int .u64 s.b) ∧ x.cell? ⟨w.heap.size, 2, none⟩ = some (.int .u64 s.c) ∧ x.cell? ⟨w.heap.size, 3, none⟩ = some (.int .u64 s.d)) ((first | exact ⟨HF.drew, four_cells HF.drew⟩ | assumption | exact four_call ‹FourIn w s _ ∧ _› ‹_›)) ((first
      | ((go_at_call 11; refine (valid_any _ (by omega) _).mono ?_; rintro e w3 ⟨rfl, rfl⟩))
      | ((go_at_call_of 13 (Value.string ⟨mr.toArray⟩); refine (encode_any _ s hs (by omega) _).mono ?_; rintro e w3 ⟨rfl, B3⟩))
      | ((go_at_call 13; refine (encode_join ml mr s hs (by omega) _).mono ?_; rintro e w3 ⟨rfl, B3⟩))))
    obtain ⟨HG, -, -, -, -⟩ := ‹FourIn w s _ ∧ _›
    go_wp2_with fail
    go_meet
    exact ⟨rfl, HG⟩
  case rest =>
    clear HF
    obtain ⟨rfl, HF⟩ := hcut
    go_wp2_with fail
    go_loopw [10] (fun i wr => ∃ k : Nat, k ≤ (Pc.enc s.has ml).length ∧ i = .int .i64 k ∧ FourIn w s wr) (fun i _ => (Pc.enc s.has ml).length - (intOf i).toNat)
    case atStart => exact ⟨0, by omega, rfl, HF⟩
    case round =>
      clear HF
      obtain ⟨k, hk, rfl, HF⟩ := hrel
      by_cases hlt : k < (Pc.enc s.has ml).length
      · have hin := E5.out _ (List.getElem_mem hlt)
        have hb := (Pc.enc s.has ml)[k].toNat_lt
        have hb0 : (0 : Int) ≤ k := by omega
        have hb1 : (k : Int) < ((Pc.enc s.has ml).length : Int) := by omega
        have hb2 : (0 : Int) ≤ ((Pc.enc s.has ml)[k].toNat : Int) := by omega
        have hb3 : ((Pc.enc s.has ml)[k].toNat : Int) ≤ 255 := by omega
        have hd : s.has (Pc.enc s.has ml)[k].toNat = true ∨ (s.has (Pc.enc s.has ml)[k].toNat = false ∧ (((Pc.enc s.has ml)[k].toNat : Int) != 37) = false) ∨ (s.has (Pc.enc s.has ml)[k].toNat = false ∧ (((Pc.enc s.has ml)[k].toNat : Int) != 37) = true ∧ Pc.ok ((Pc.enc s.has ml)[k].toNat : Int) = true) := by
          cases h1 : s.has (Pc.enc s.has ml)[k].toNat
          · cases h2 : (((Pc.enc s.has ml)[k].toNat : Int) != 37)
            · exact Or.inr (Or.inl ⟨rfl, rfl⟩)
            · rcases hin with hin | hin | hin
              · rw [h1] at hin; cases hin
              · rw [hin] at h2; exact absurd h2 (by decide)
              · exact Or.inr (Or.inr ⟨rfl, rfl, hin⟩)
          · exact Or.inl rfl
        clear hin
        rcases hd with d1 | ⟨d1, d2⟩ | ⟨d1, d2, d3⟩
        all_goals
          obtain ⟨c0, c1, c2, c3⟩ := four_cells HF
          go_upto_region 12 with (fail)
          go_cut [78] (fun c wx => c = .bool false ∧ FourIn w s wx)
          case first =>
            first
            | (go_region_with (first
                | (go_at_call 19; refine (has_any s hs _ (by omega) _).mono ?_; rintro e w3 ⟨he, B3⟩; rw [d1] at he; obtain rfl := he)
                | (go_at_call 20; refine (hex_any _ (by omega) (by omega) _).mono ?_; rintro e w3 ⟨he, rfl⟩; rw [d3] at he; obtain rfl := he))
               all_goals
                go_wp2_with fail
                go_meet
                exact ⟨rfl, HF.drew.call ‹_›⟩)
            | fail
          case rest =>
            clear HF
            obtain ⟨rfl, HF⟩ := hcut
            go_wp2_with fail
            go_roundw
            case rel => exact ⟨k + 1, by omega, by go_num, HF⟩
            case measure => simp [intOf]; omega
      · have HB := HF.out
        go_wp2_with (first | (go_at_call 9; refine (decode_any _ (by omega) _).mono ?_; rintro e w1 ⟨rfl, B1⟩; replace HB := bthen HB B1; clear B1) | (go_at_call 11; refine (valid_any _ (by omega) _).mono ?_; rintro e w1 ⟨rfl, rfl⟩) | (go_at_call 16; refine (upper_any _ (by omega) _).mono ?_; rintro e w1 ⟨rfl, B1⟩; replace HB := bthen HB B1; clear B1) | (go_at_call 18; refine (awake_any _).mono ?_; rintro e w1 ⟨rfl, B1⟩; replace HB := bthen HB B1; clear B1))
        go_ret
        exact ⟨rfl, HB⟩

theorem back_any (a : ByteArray) (ha : a.size ≤ maxLen) (b : ByteArray) (hb : b.size ≤ maxLen) (s : W4) (hs : s.Ok) (w : World) : Calls Try.prog 4 #[.string a, .string b, .agg #[.int .u64 s.a, .int .u64 s.b, .int .u64 s.c, .int .u64 s.d]] w fun e w' => e = .returned (.bool true) ∧ Below w.heap.size w w' := by
  have h : a.data.toList.length ≤ 9223372036854775807 := by rw [data_length]; exact ha
  have h' : b.data.toList.length ≤ 9223372036854775807 := by rw [data_length]; exact hb
  rw [str_eq a, str_eq b]
  exact back_list _ _ h h' s hs w
end Go.Proofs.Ytmgfhlkpmacehaa
