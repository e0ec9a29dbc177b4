/-
  The document's Set: walked.
-/
import Derived.Test.YtebkaajnnjfhjaaDoorMbr
import Derived.Test.YtebkaajnnjfhjaaDoorByte
import Derived.Test.YtebkaajnnjfhjaaDoorRs
namespace Go.Proofs.YtebkaajnnjfhjaaDoor
set_option linter.unusedVariables false
set_option linter.unusedSimpArgs false
open Go.RowKit Go.Proofs.YtebkaajnnjfhjaaDoorW.PrintWords
open Tr (one marks inside rest cnt lst prun)

theorem mem_cell {s : W4} {W : World} {g : Nat} {t : TypeId} (h : W.heap[g]? = some (.cells (memA s 256) t (0, 0))) (c : Nat) (hc : c < 256) : W.cell? ⟨g, c, none⟩ = some (.bool (s.has c)) := by
  rw [blk_cell h, memA_get _ _ _ hc]
  have : decide (c < 256) = true := by simp; omega
  rw [this]; rfl
theorem byte_n (k : Nat) (hk : k < 256) (l : List UInt8) (hl : l.length ≤ 1000) (w : World) : Calls Tryd.prog 66 #[.int .i64 k, .string ⟨l.toArray⟩] w fun e w' => e = .returned (.string ⟨(one (UInt8.ofNat k) l).toArray⟩) ∧ Below w.heap.size w w' := by
  have := byte_any (UInt8.ofNat k) l hl w
  rw [Tr.ofNat_toNat hk] at this
  exact this
set_option maxRecDepth 100000 in
set_option maxHeartbeats 6400000 in
theorem rset_any (s : W4) (hs : s.Ok) (w : World) : Calls Tryd.prog 54 #[.agg #[.int .u64 s.a, .int .u64 s.b, .int .u64 s.c, .int .u64 s.d]] w fun e w' => e = .returned (.string ⟨(Tr.pset s).toArray⟩) ∧ Below w.heap.size w w' := by
  have hz := zero_mem
  have HA : Hid (cnt s.has 256 = 256 → Tr.pset s = [46]) := Lib.hid Tr.pset_all
  have HO : Hid (cnt s.has 256 = 1 → Tr.pset s = one (UInt8.ofNat (lst s.has 256)) marks) := Lib.hid Tr.pset_one
  have HG : Hid (cnt s.has 256 ≠ 256 → cnt s.has 256 ≠ 1 → Tr.pset s = 91 :: ((Tr.runs (Tr.mems s)).flatMap prun ++ [93])) := Lib.hid fun h1 h2 => pset_gen s (by rw [Tr.mems_cnt]; exact h1) (by rw [Tr.mems_cnt]; exact h2)
  have HF0 : Hid ((Tr.runs (Tr.mems s)).flatMap prun = (rest s.has 0).flatMap prun) := Lib.hid (by rw [Tr.mems_from]; rfl)
  have hfl := Tr.full_len s
  generalize Tr.pset s = r at HA HO HG ⊢
  generalize (Tr.runs (Tr.mems s)).flatMap prun = full at HG HF0 hfl
  have HFL := Lib.hid hfl
  clear hfl
  have HM := Lib.hid (fun w1 => members_any s hs w1)
  clear hs
  go_enter Tryd.func54, Tryd.ntmps54
  go_wp2_with fail
  refine (HM.out _).mono ?_
  rintro e w1 ⟨rfl, B1⟩
  have hB1 : Below w.heap.size w w1 := bthen ((Below.refl _ _).alloc (Nat.le_refl _) _) B1
  have g2 := blk_new w1 (.cells (memA W4.zero 0) 93)
  have hgl : w.heap.size ≤ w1.heap.size := hB1.size
  have hB3 : Below w.heap.size w ((w1.alloc (.cells (memA W4.zero 0) 93)).setRow w1.heap.size (memA s 256)) := below_setRow (hB1.alloc hB1.size _) hgl _
  have g3 : ((w1.alloc (.cells (memA W4.zero 0) 93)).setRow w1.heap.size (memA s 256)).heap[w1.heap.size]? = some (.cells (memA s 256) 93 (0, 0)) := setRow_heap _ _ _ _ _ _ g2
  clear HM B1 hB1
  go_wp2_with (refine wpList_store_row rfl 93 _ _ rfl (w1.heap.size) rfl 93 (memA W4.zero 0) (memA s 256) rfl g2 (by rw [memA_size, memA_size]) (memA_one _ _) (by rw [memA_size]; kernel_rfl) ?_)
  clear g2 hz
  generalize (w1.alloc (.cells (memA W4.zero 0) 93)).setRow w1.heap.size (memA s 256) = V at hB3 g3 ⊢
  generalize w1.heap.size = g at g3 hgl ⊢
  have HK := Lib.hid (fun z (hb : Below V.heap.size V z) c (hc : c < 256) => mem_cell (s := s) (blk_below g3 hb) c hc)
  have HBV := Lib.hid hB3
  clear g3 hB3
  generalize s.has = h at HK HA HO HG HF0
  clear hgl
  go_loop [4, 5, 6] (fun n l i => ∃ k : Nat, k ≤ 256 ∧ n = .int .i64 (cnt h k) ∧ l = .int .i64 (lst h k) ∧ i = .int .i64 k) (fun _ _ i => 256 - (RowKit.intOf i).toNat)
  case atStart => exact ⟨0, by omega, rfl, rfl, rfl⟩
  case round =>
    obtain ⟨k, hk, rfl, rfl, rfl⟩ := hrel
    have hcl := Tr.cnt_le h k
    have hll := Tr.lst_le h k
    by_cases hlt : k < 256
    · have hc := HK.out V (Below.refl _ _) k hlt
      have hs := Lib.hid (Tr.cnt_succ h k)
      have hl : Hid (lst h (k + 1) = if h k then k else lst h k) := Lib.hid rfl
      have e1 : (k : Int) < 256 := by omega
      cases hh : h k
      all_goals
        rw [hh] at hc
        have hs' : Hid (cnt h (k + 1) = cnt h k + (if h k then 1 else 0)) := hs
        have hl' : Hid (lst h (k + 1) = if h k then k else lst h k) := hl
        have hh' := Lib.hid hh
        clear hh hs hl
        go_wp2_with fail
        go_round
        case rel =>
          refine ⟨k + 1, by omega, ?_, ?_, by go_num⟩
          · rw [hs'.out, hh'.out]; first | rfl | go_num
          · rw [hl'.out, hh'.out]; rfl
        case measure => simp [RowKit.intOf]; omega
    · have hke : k = 256 := by omega
      subst hke
      by_cases h256 : cnt h 256 = 256
      · have HR : Hid (r = [46]) := Lib.hid (HA.out h256)
        have e1 : ((cnt h 256 : Int) == 256) = true := beq_t (by omega)
        clear h256
        go_wp2_with fail
        go_ret
        exact ⟨by rw [HR.out]; rfl, HBV.out⟩
      have e1 : ((cnt h 256 : Int) == 256) = false := beq_f (by omega)
      by_cases h1 : cnt h 256 = 1
      · have HR : Hid (r = one (UInt8.ofNat (lst h 256)) marks) := Lib.hid (HO.out h1)
        have e2 : ((cnt h 256 : Int) == 1) = true := beq_t (by omega)
        have hb := Tr.lst_lt h 256 (by omega)
        have HY := Lib.hid (fun w1 => byte_n (lst h 256) hb marks (by decide) w1)
        clear h256 h1
        generalize lst h 256 = q at *
        generalize cnt h 256 = c at *
        go_wp2_with fail
        refine (HY.out _).mono ?_
        rintro e w2 ⟨rfl, B2⟩
        have HB2 := Lib.hid (bthen HBV.out B2)
        clear B2
        go_wp2_with fail
        go_ret
        exact ⟨by rw [HR.out]; rfl, HB2.out⟩
      have e2 : ((cnt h 256 : Int) == 1) = false := beq_f (by omega)
      have HR : Hid (r = 91 :: (full ++ [93])) := Lib.hid (HG.out h256 h1)
      clear h256 h1 HA HO HG
      generalize lst h 256 = q at *
      generalize cnt h 256 = c at *
      go_wp2_with fail
      go_loopw [7, 8] (fun o i wr => ∃ (k : Nat) (pre : List UInt8), k ≤ 256 ∧ o = .string ⟨(91 :: pre).toArray⟩ ∧ i = .int .i64 k ∧ Hid (full = pre ++ (rest h k).flatMap prun) ∧ Below V.heap.size V wr) (fun _ i _ => 256 - (RowKit.intOf i).toNat)
      case atStart => exact ⟨0, [], by omega, rfl, rfl, Lib.hid (by rw [HF0.out]; rfl), Below.refl _ _⟩
      case round =>
        clear hk hlt hcl hll
        obtain ⟨k, pre, hk, rfl, rfl, HE, HB⟩ := hrel
        have hpl : pre.length ≤ 2304 := by
          have h1 := HE.out
          have h2 := HFL.out
          rw [h1, List.length_append] at h2
          omega
        by_cases hlt : k < 256
        · have hc := HK.out wr HB k hlt
          have i1 : (k : Int) < 256 := by omega
          cases hh : h k
          · have HS : Hid (full = pre ++ (rest h (k + 1)).flatMap prun) := Lib.hid (by rw [← Tr.rest_skip (by omega) (.inl hh)]; exact HE.out)
            rw [hh] at hc
            clear hh
            go_wp2_with fail
            go_roundw
            case rel => exact ⟨k + 1, pre, by omega, rfl, by go_num, HS, by first | exact HB | exact HB.drew⟩
            case measure => simp [RowKit.intOf]; omega
          rw [hh] at hc
          by_cases hsk : 0 < k ∧ h (k - 1) = true
          · have HS : Hid (full = pre ++ (rest h (k + 1)).flatMap prun) := Lib.hid (by rw [← Tr.rest_skip (by omega) (.inr hsk)]; exact HE.out)
            have hc' := HK.out wr HB (k - 1) (by omega)
            rw [hsk.2] at hc'
            have hp : ∃ q : Nat, q = k - 1 := ⟨_, rfl⟩
            obtain ⟨q, hq⟩ := hp
            rw [← hq] at hc'
            have hsub : (k : Int) - 1 = (q : Int) := by omega
            have d0 : decide ((0 : Int) < k) = true := decide_eq_true (by omega)
            have i2 : (q : Int) < 256 := by omega
            clear hh hsk hq
            go_wp2_with fail
            go_roundw
            case rel => exact ⟨k + 1, pre, by omega, rfl, by go_num, HS, by first | exact HB | exact HB.drew⟩
            case measure => simp [RowKit.intOf]; omega
          have HP : Hid (k = 0 ∨ h (k - 1) = false) := Lib.hid (by
            rcases Nat.eq_zero_or_pos k with h0 | h0
            · exact .inl h0
            · right
              cases hx : h (k - 1) with
              | false => rfl
              | true => exact absurd ⟨h0, hx⟩ hsk)
          have HH := Lib.hid hh
          have hgo : k = 0 ∨ ∃ q : Nat, (k : Int) - 1 = (q : Int) ∧ (q : Int) < 256 ∧ wr.cell? ⟨g, q, none⟩ = some (.bool false) ∧ decide ((0 : Int) < k) = true := by
            rcases HP.out with h0 | h0
            · exact .inl h0
            · rcases Nat.eq_zero_or_pos k with h1 | h1
              · exact .inl h1
              · refine .inr ⟨k - 1, by omega, by omega, ?_, decide_eq_true (by omega)⟩
                rw [HK.out wr HB (k - 1) (by omega), h0]
          clear hh hsk
          rcases hgo with h0 | ⟨q, hsub, i2, hc', d0⟩
          · subst h0
            go_wp2_with fail
            go_loop [9] (fun ev => ∃ e : Nat, 0 ≤ e ∧ e < 256 ∧ ev = .int .i64 e ∧ Hid (∀ j, 0 ≤ j → j ≤ e → h j = true)) (fun ev => 256 - (RowKit.intOf ev).toNat)
            case atStart => exact ⟨0, Nat.le_refl _, by omega, rfl, Lib.hid fun j j1 j2 => by rw [show j = 0 by omega]; exact HH.out⟩
            case round =>
              obtain ⟨e, he1, he2, rfl, HJ⟩ := hrel
              have HBK := Lib.hid (byte_n 0 (by omega) inside (by decide))
              have HBE := Lib.hid (byte_n e he2 inside (by decide))
              have l1 := Tr.one_len4 (UInt8.ofNat 0) inside
              have l2 := Tr.one_len4 (UInt8.ofNat e) inside
              have HPR : Hid (prun (UInt8.ofNat 0, UInt8.ofNat e) = one (UInt8.ofNat 0) inside ++ ((if 0 + 1 < e then [45] else []) ++ (if 0 < e then one (UInt8.ofNat e) inside else []))) := Lib.hid (by
                unfold Tr.prun
                simp only [Tr.ofNat_toNat (show 0 < 256 by omega), Tr.ofNat_toNat he2])
              have HTK : Hid ((e = 255 ∨ h (e + 1) = false) → full = (pre ++ prun (UInt8.ofNat 0, UInt8.ofNat e)) ++ (rest h (0 + 1)).flatMap prun) := Lib.hid fun h4 => by
                have := HE.out
                rw [Tr.rest_take HH.out (Or.inl rfl) he1 he2 HJ.out h4, List.flatMap_cons, ← List.append_assoc] at this
                exact this
              by_cases hx : e < 255 ∧ h (e + 1) = true
              · have hcx := HK.out wr HB (e + 1) (by omega)
                rw [hx.2] at hcx
                have HJ2 : Hid (∀ j, 0 ≤ j → j ≤ e + 1 → h j = true) := Lib.hid fun j j1 j2 => by
                  by_cases hj : j = e + 1
                  · rw [hj]; exact hx.2
                  · exact HJ.out j j1 (by omega)
                have d1 : decide ((e : Int) < 255) = true := decide_eq_true (by omega)
                have he3 : e < 255 := hx.1
                clear hx HBK HBE HPR HTK l1 l2
                go_wp2_with fail
                go_round
                case rel => exact ⟨e + 1, by omega, by omega, by go_num, HJ2⟩
                case measure => simp [RowKit.intOf]; omega
              · have h4 : e = 255 ∨ h (e + 1) = false := by
                  rcases Nat.lt_or_ge e 255 with h5 | h5
                  · right
                    cases hy : h (e + 1) with
                    | false => rfl
                    | true => exact absurd ⟨h5, hy⟩ hx
                  · exact .inl (by omega)
                have HT := Lib.hid (HTK.out h4)
                have hgo2 : decide ((e : Int) < 255) = false ∨ (decide ((e : Int) < 255) = true ∧ wr.cell? ⟨g, e + 1, none⟩ = some (.bool false) ∧ e < 255) := by
                  rcases h4 with h5 | h5
                  · exact .inl (decide_eq_false (by omega))
                  · rcases Nat.lt_or_ge e 255 with h6 | h6
                    · refine .inr ⟨decide_eq_true (by omega), ?_, h6⟩
                      rw [HK.out wr HB (e + 1) (by omega), h5]
                    · exact .inl (decide_eq_false (by omega))
                clear hx h4 HTK
                have h3 : e = 0 ∨ e = 0 + 1 ∨ 0 + 1 < e := by omega
                generalize one (UInt8.ofNat 0) inside = b1 at HBK l1 HPR
                generalize one (UInt8.ofNat e) inside = b2 at HBE l2 HPR
                rcases hgo2 with hd | ⟨hd, hcx, he3⟩
                all_goals
                  rcases h3 with h3 | h3 | h3
                  · have HS : Hid (full = (pre ++ b1) ++ (rest h (0 + 1)).flatMap prun) := Lib.hid (by
                      have h7 := HT.out
                      rw [HPR.out, if_neg (by omega), if_neg (by omega), List.append_nil, List.append_nil] at h7
                      exact h7)
                    have t1 : decide ((1 : Int) < (e : Int)) = false := decide_eq_false (by omega)
                    have t2 : decide ((0 : Int) < (e : Int)) = false := decide_eq_false (by omega)
                    have t3 : ¬ (0 : Int) < (e : Int) := by omega
                    have t4 : (e : Int) ≤ (0 : Int) := by omega
                    have t5 : e ≤ 0 := by omega
                    clear HPR HT l2 HBE h3
                    go_wp2_with fail
                    refine (HBK.out _).mono ?_
                    rintro e9 w2 ⟨rfl, B2⟩
                    have HB2 := Lib.hid (bthen HB B2)
                    clear B2
                    go_wp2_with fail
                    go_roundw
                    case rel => exact ⟨0 + 1, pre ++ b1, by omega, by simp, by first | rfl | go_num, HS, HB2.out⟩
                    case measure => first | (simp [RowKit.intOf]; done) | (simp [RowKit.intOf]; omega)
                  · have HS : Hid (full = (pre ++ (b1 ++ b2)) ++ (rest h (0 + 1)).flatMap prun) := Lib.hid (by
                      have h7 := HT.out
                      rw [HPR.out, if_neg (by omega), if_pos (by omega), List.nil_append] at h7
                      exact h7)
                    have t1 : decide ((1 : Int) < (e : Int)) = false := decide_eq_false (by omega)
                    have t2 : decide ((0 : Int) < (e : Int)) = true := decide_eq_true (by omega)
                    have t3 : (0 : Int) < (e : Int) := by omega
                    have t4 : ¬ (1 : Int) < (e : Int) := by omega
                    clear HPR HT h3
                    go_wp2_with fail
                    refine (HBK.out _).mono ?_
                    rintro e9 w2 ⟨rfl, B2⟩
                    have HB2 := Lib.hid (bthen HB B2)
                    clear B2
                    go_wp2_with fail
                    refine (HBE.out _).mono ?_
                    rintro e9 w3 ⟨rfl, B3⟩
                    have HB3 := Lib.hid (bthen HB2.out B3)
                    clear B3
                    go_wp2_with fail
                    go_roundw
                    case rel => exact ⟨0 + 1, pre ++ (b1 ++ b2), by omega, by simp, by first | rfl | go_num, HS, HB3.out⟩
                    case measure => first | (simp [RowKit.intOf]; done) | (simp [RowKit.intOf]; omega)
                  · have HS : Hid (full = (pre ++ (b1 ++ ([45] ++ b2))) ++ (rest h (0 + 1)).flatMap prun) := Lib.hid (by
                      have h7 := HT.out
                      rw [HPR.out, if_pos (by omega), if_pos (by omega)] at h7
                      exact h7)
                    have t1 : decide ((1 : Int) < (e : Int)) = true := decide_eq_true (by omega)
                    have t2 : decide ((0 : Int) < (e : Int)) = true := decide_eq_true (by omega)
                    have t3 : (0 : Int) < (e : Int) := by omega
                    have t4 : (1 : Int) < (e : Int) := by omega
                    clear HPR HT h3
                    go_wp2_with fail
                    refine (HBK.out _).mono ?_
                    rintro e9 w2 ⟨rfl, B2⟩
                    have HB2 := Lib.hid (bthen HB B2)
                    clear B2
                    go_wp2_with fail
                    refine (HBE.out _).mono ?_
                    rintro e9 w3 ⟨rfl, B3⟩
                    have HB3 := Lib.hid (bthen HB2.out B3)
                    clear B3
                    go_wp2_with fail
                    go_roundw
                    case rel => exact ⟨0 + 1, pre ++ (b1 ++ ([45] ++ b2)), by omega, by simp, by first | rfl | go_num, HS, HB3.out⟩
                    case measure => first | (simp [RowKit.intOf]; done) | (simp [RowKit.intOf]; omega)
          · go_wp2_with fail
            go_loop [9] (fun ev => ∃ e : Nat, k ≤ e ∧ e < 256 ∧ ev = .int .i64 e ∧ Hid (∀ j, k ≤ j → j ≤ e → h j = true)) (fun ev => 256 - (RowKit.intOf ev).toNat)
            case atStart => exact ⟨k, Nat.le_refl _, by omega, rfl, Lib.hid fun j j1 j2 => by rw [show j = k by omega]; exact HH.out⟩
            case round =>
              obtain ⟨e, he1, he2, rfl, HJ⟩ := hrel
              have HBK := Lib.hid (byte_n k (by omega) inside (by decide))
              have HBE := Lib.hid (byte_n e he2 inside (by decide))
              have l1 := Tr.one_len4 (UInt8.ofNat k) inside
              have l2 := Tr.one_len4 (UInt8.ofNat e) inside
              have HPR : Hid (prun (UInt8.ofNat k, UInt8.ofNat e) = one (UInt8.ofNat k) inside ++ ((if k + 1 < e then [45] else []) ++ (if k < e then one (UInt8.ofNat e) inside else []))) := Lib.hid (by
                unfold Tr.prun
                simp only [Tr.ofNat_toNat (show k < 256 by omega), Tr.ofNat_toNat he2])
              have HTK : Hid ((e = 255 ∨ h (e + 1) = false) → full = (pre ++ prun (UInt8.ofNat k, UInt8.ofNat e)) ++ (rest h (k + 1)).flatMap prun) := Lib.hid fun h4 => by
                have := HE.out
                rw [Tr.rest_take HH.out HP.out he1 he2 HJ.out h4, List.flatMap_cons, ← List.append_assoc] at this
                exact this
              by_cases hx : e < 255 ∧ h (e + 1) = true
              · have hcx := HK.out wr HB (e + 1) (by omega)
                rw [hx.2] at hcx
                have HJ2 : Hid (∀ j, k ≤ j → j ≤ e + 1 → h j = true) := Lib.hid fun j j1 j2 => by
                  by_cases hj : j = e + 1
                  · rw [hj]; exact hx.2
                  · exact HJ.out j j1 (by omega)
                have d1 : decide ((e : Int) < 255) = true := decide_eq_true (by omega)
                have he3 : e < 255 := hx.1
                clear hx HBK HBE HPR HTK l1 l2
                go_wp2_with fail
                go_round
                case rel => exact ⟨e + 1, by omega, by omega, by go_num, HJ2⟩
                case measure => simp [RowKit.intOf]; omega
              · have h4 : e = 255 ∨ h (e + 1) = false := by
                  rcases Nat.lt_or_ge e 255 with h5 | h5
                  · right
                    cases hy : h (e + 1) with
                    | false => rfl
                    | true => exact absurd ⟨h5, hy⟩ hx
                  · exact .inl (by omega)
                have HT := Lib.hid (HTK.out h4)
                have hgo2 : decide ((e : Int) < 255) = false ∨ (decide ((e : Int) < 255) = true ∧ wr.cell? ⟨g, e + 1, none⟩ = some (.bool false) ∧ e < 255) := by
                  rcases h4 with h5 | h5
                  · exact .inl (decide_eq_false (by omega))
                  · rcases Nat.lt_or_ge e 255 with h6 | h6
                    · refine .inr ⟨decide_eq_true (by omega), ?_, h6⟩
                      rw [HK.out wr HB (e + 1) (by omega), h5]
                    · exact .inl (decide_eq_false (by omega))
                clear hx h4 HTK
                have h3 : e = k ∨ e = k + 1 ∨ k + 1 < e := by omega
                generalize one (UInt8.ofNat k) inside = b1 at HBK l1 HPR
                generalize one (UInt8.ofNat e) inside = b2 at HBE l2 HPR
                rcases hgo2 with hd | ⟨hd, hcx, he3⟩
                all_goals
                  rcases h3 with h3 | h3 | h3
                  · have HS : Hid (full = (pre ++ b1) ++ (rest h (k + 1)).flatMap prun) := Lib.hid (by
                      have h7 := HT.out
                      rw [HPR.out, if_neg (by omega), if_neg (by omega), List.append_nil, List.append_nil] at h7
                      exact h7)
                    have t1 : decide ((k : Int) + 1 < (e : Int)) = false := decide_eq_false (by omega)
                    have t2 : decide ((k : Int) < (e : Int)) = false := decide_eq_false (by omega)
                    have t3 : ¬ (k : Int) < (e : Int) := by omega
                    have t4 : (e : Int) ≤ (k : Int) := by omega
                    have t5 : e ≤ k := by omega
                    clear HPR HT l2 HBE h3
                    go_wp2_with fail
                    refine (HBK.out _).mono ?_
                    rintro e9 w2 ⟨rfl, B2⟩
                    have HB2 := Lib.hid (bthen HB B2)
                    clear B2
                    go_wp2_with fail
                    go_roundw
                    case rel => exact ⟨k + 1, pre ++ b1, by omega, by simp, by first | rfl | go_num, HS, HB2.out⟩
                    case measure => first | (simp [RowKit.intOf]; done) | (simp [RowKit.intOf]; omega)
                  · have HS : Hid (full = (pre ++ (b1 ++ b2)) ++ (rest h (k + 1)).flatMap prun) := Lib.hid (by
                      have h7 := HT.out
                      rw [HPR.out, if_neg (by omega), if_pos (by omega), List.nil_append] at h7
                      exact h7)
                    have t1 : decide ((k : Int) + 1 < (e : Int)) = false := decide_eq_false (by omega)
                    have t2 : decide ((k : Int) < (e : Int)) = true := decide_eq_true (by omega)
                    have t3 : (k : Int) < (e : Int) := by omega
                    have t4 : ¬ (k : Int) + 1 < (e : Int) := by omega
                    clear HPR HT h3
                    go_wp2_with fail
                    refine (HBK.out _).mono ?_
                    rintro e9 w2 ⟨rfl, B2⟩
                    have HB2 := Lib.hid (bthen HB B2)
                    clear B2
                    go_wp2_with fail
                    refine (HBE.out _).mono ?_
                    rintro e9 w3 ⟨rfl, B3⟩
                    have HB3 := Lib.hid (bthen HB2.out B3)
                    clear B3
                    go_wp2_with fail
                    go_roundw
                    case rel => exact ⟨k + 1, pre ++ (b1 ++ b2), by omega, by simp, by first | rfl | go_num, HS, HB3.out⟩
                    case measure => first | (simp [RowKit.intOf]; done) | (simp [RowKit.intOf]; omega)
                  · have HS : Hid (full = (pre ++ (b1 ++ ([45] ++ b2))) ++ (rest h (k + 1)).flatMap prun) := Lib.hid (by
                      have h7 := HT.out
                      rw [HPR.out, if_pos (by omega), if_pos (by omega)] at h7
                      exact h7)
                    have t1 : decide ((k : Int) + 1 < (e : Int)) = true := decide_eq_true (by omega)
                    have t2 : decide ((k : Int) < (e : Int)) = true := decide_eq_true (by omega)
                    have t3 : (k : Int) < (e : Int) := by omega
                    have t4 : (k : Int) + 1 < (e : Int) := by omega
                    clear HPR HT h3
                    go_wp2_with fail
                    refine (HBK.out _).mono ?_
                    rintro e9 w2 ⟨rfl, B2⟩
                    have HB2 := Lib.hid (bthen HB B2)
                    clear B2
                    go_wp2_with fail
                    refine (HBE.out _).mono ?_
                    rintro e9 w3 ⟨rfl, B3⟩
                    have HB3 := Lib.hid (bthen HB2.out B3)
                    clear B3
                    go_wp2_with fail
                    go_roundw
                    case rel => exact ⟨k + 1, pre ++ (b1 ++ ([45] ++ b2)), by omega, by simp, by first | rfl | go_num, HS, HB3.out⟩
                    case measure => first | (simp [RowKit.intOf]; done) | (simp [RowKit.intOf]; omega)
        · have HE2 : Hid (full = pre) := Lib.hid (by
            have := HE.out
            rw [Tr.rest_end h k (by omega)] at this
            simpa using this)
          go_wp2_with fail
          go_ret
          exact ⟨by rw [HR.out, HE2.out]; simp, bthen HBV.out HB⟩
end Go.Proofs.YtebkaajnnjfhjaaDoor
