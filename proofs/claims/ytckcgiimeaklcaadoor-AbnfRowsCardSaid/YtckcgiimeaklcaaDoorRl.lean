/-
  AbnfRows, at words of more than 20 bytes; all of it.
-/
import Derived.Test.YtckcgiimeaklcaaDoorRw
namespace Go.Proofs.YtckcgiimeaklcaaDoor
set_option linter.unusedVariables false
set_option linter.unusedSimpArgs false
open Go.RowKit Go.Proofs.YtckcgiimeaklcaaDoorW.PrintWords
open Ab (T El R Rs sz rootI post els root hasR szs Tb TT)
section
variable {W : World}
set_option maxRecDepth 100000 in
set_option maxHeartbeats 12800000 in
theorem rows_long (text rule wl : List UInt8) (hr : rule.length ≤ maxLen) (hw : 20 < wl.length) (h4 : text.length ≤ 400) (m : Int) (hm : W.cell? ⟨0, 0, none⟩ = some (.int .i64 m)) : Calls Tryd.prog 4 #[.string ⟨text.toArray⟩, .string ⟨rule.toArray⟩, .string ⟨wl.toArray⟩] W fun e w' => e = .returned (.bool true) ∧ Below W.heap.size W w' := by
  have HMM := Lib.hid (fun (z : World) (B : Below W.heap.size W z) => pw_cell_below B hm)
  have HB := Lib.hid (Below.refl W.heap.size W)
  have HRD := Lib.hid (read_any (w := W) text m hm)
  have t1 : decide ((400 : Int) < (text.length : Int)) = false := decide_eq_false (by omega)
  have t2 : decide ((20 : Int) < (wl.length : Int)) = true := decide_eq_true (by omega)
  have HR0 := Lib.hid hr
  clear hm hr
  go_enter Tryd.func4, Tryd.ntmps4
  go_wp2_with fail
  have hw20 : (wl.take 20).length ≤ 20 := by simp; omega
  generalize wl.take 20 = w at hw20 ⊢
  have HN := Lib.hid (And.intro HR0.out (And.intro hw20 h4))
  clear hw20 hw HR0
  refine HRD.out.mono ?_
  rintro e w1 ⟨B1, hO⟩
  replace HB := Lib.hid (bthen HB.out B1)
  cases hread : Ab.read text with
  | bad i x =>
    have hx := Ab.read_nz hread
    have tx : (x == 0) = false := beq_eq_false_iff_ne.2 hx
    rw [hread] at hO
    obtain rfl := hO
    go_wp2_with fail
    refine (awake_any m (HMM.out _ HB.out)).mono ?_
    rintro e w2 ⟨rfl, B2⟩
    replace HB := Lib.hid (bthen HB.out B2)
    clear B2
    go_wp2_with fail
    go_ret
    exact ⟨rfl, HB.out⟩
  | good rs ln =>
    rw [hread] at hO
    obtain ⟨gg, bm, A, c, vL, rfl, hG, hS⟩ := hO
    have HG := Lib.hid hG
    have HS := Lib.hid hS
    have HRT := Lib.hid (Ab.turned_read h4 hread hS.nod hS.r100 hS.has)
    clear hG hS hread HRD B1
    go_wp2_with fail
    go_loopw [12, 11, 10] (fun v12 v11 v10 wr => ∃ (tn : List UInt8) (fr i : Nat), v12 = .int .i64 i ∧ v11 = .int .i64 fr ∧ v10 = .string ⟨tn.toArray⟩ ∧ Hid (Ab.RwSt text tn fr i) ∧ wr = w1) (fun v12 _ _ _ => text.length + 1 - (RowKit.intOf v12).toNat)
    case atStart => exact ⟨[], 0, 0, rfl, rfl, rfl, Lib.hid (Ab.rw_start text), rfl⟩
    case round =>
      obtain ⟨tn, fr, i, rfl, rfl, rfl, HST, rfl⟩ := hrel
      by_cases hi : i ≤ text.length
      · have e1 : decide ((i : Int) ≤ (text.length : Int)) = true := decide_eq_true (by omega)
        have wi0 : IntKind.i64.wrap (i : Int) = (i : Int) := IntWalk.i64_in _ (by omega)
        have wi1 : IntKind.i64.wrap ((i : Int) + 1) = (i : Int) + 1 := IntWalk.i64_in _ (by omega)
        obtain ⟨cur, hfr, hcl, hcur, hgo, hend⟩ := Ab.rw_at HST.out hi
        have htl := Ab.rw_len HST.out h4
        have hcu : cur.length ≤ 400 := by clear hgo hend; omega
        have HEN := Lib.hid hend
        have HGO := Lib.hid hgo
        have HC := Lib.hid (And.intro hcl hcur)
        clear hend hgo hcl hcur
        have f0 : (0 : Int) ≤ (fr : Int) := by omega
        have f1 : (fr : Int) ≤ (i : Int) := by omega
        have f2 : (i : Int) ≤ (text.length : Int) := by omega
        by_cases hlt : i < text.length
        · have e2 : decide ((i : Int) < (text.length : Int)) = true := decide_eq_true (by omega)
          have e3 : (i : Int) < text.length := by omega
          have e4 : (0 : Int) ≤ (i : Int) := by omega
          obtain ⟨ch, hch⟩ : ∃ ch, text[i] = ch := ⟨_, rfl⟩
          cases h10 : ch == (10 : UInt8)
          · have t10 : ((ch.toNat : Int) == 10) = false := by have := u8_beq ch 10; rw [h10] at this; exact this
            have HNX := Lib.hid (HGO.out hlt (by rw [hch]; simpa using h10))
            clear h10
            clear HC
            go_wp2_with fail
            exact ⟨⟨tn, fr, i + 1, rfl, rfl, rfl, HNX, trivial⟩, by simp [RowKit.intOf]; omega⟩
          · have t10 : ((ch.toNat : Int) == 10) = true := by have := u8_beq ch 10; rw [h10] at this; exact this
            have HNX := Lib.hid (HEN.out (fun h => by rw [hch]; simpa using h10))
            clear h10
            go_upto_region 15 with (fail)
            rw [HC.out.2]
            cases cur with
            | nil =>
              clear HC
              have HW : Hid (Ab.wrapL [] ++ 10 :: tn = 32 :: 32 :: 32 :: 10 :: tn) := Lib.hid rfl
              rw [HW.out] at HNX
              go_wp2_with fail
              exact ⟨⟨_, i + 1, i + 1, rfl, rfl, rfl, HNX, trivial⟩, by simp [RowKit.intOf]; omega⟩
            | cons d t =>
              clear HC
              have htc : t.length ≤ 400 := by simp at hcu; omega
              clear hcu
              cases h59 : d == (59 : UInt8)
              · have t59 : ((d.toNat : Int) == 59) = false := by have := u8_beq d 59; rw [h59] at this; exact this
                have t59b : ((d.toNat : Int) != 59) = true := by unfold bne; rw [t59]; rfl
                have HW : Hid (Ab.wrapL (d :: t) ++ 10 :: tn = 32 :: 32 :: (d :: t ++ 32 :: 10 :: tn)) := Lib.hid (by
                  have : Ab.nx 59 (d :: t) = false := by simpa [Ab.nx] using h59
                  unfold Ab.wrapL
                  rw [this]
                  simp)
                rw [HW.out] at HNX
                clear h59
                go_wp2_with fail
                exact ⟨⟨_, i + 1, i + 1, rfl, rfl, rfl, HNX, trivial⟩, by simp [RowKit.intOf]; omega⟩
              · have t59 : ((d.toNat : Int) == 59) = true := by have := u8_beq d 59; rw [h59] at this; exact this
                have t59b : ((d.toNat : Int) != 59) = false := by unfold bne; rw [t59]; rfl
                have HW : Hid (Ab.wrapL (d :: t) ++ 10 :: tn = d :: t ++ 10 :: tn) := Lib.hid (by
                  have : Ab.nx 59 (d :: t) = true := by simpa [Ab.nx] using h59
                  unfold Ab.wrapL
                  rw [if_pos this])
                rw [HW.out] at HNX
                clear h59
                go_wp2_with fail
                exact ⟨⟨_, i + 1, i + 1, rfl, rfl, rfl, HNX, trivial⟩, by simp [RowKit.intOf]; omega⟩
        · have e2 : decide ((i : Int) < (text.length : Int)) = false := decide_eq_false (by omega)
          have HNX := Lib.hid (HEN.out (fun h => absurd h hlt))
          go_upto_region 15 with (fail)
          rw [HC.out.2]
          cases cur with
          | nil =>
            clear HC
            have HW : Hid (Ab.wrapL [] ++ 10 :: tn = 32 :: 32 :: 32 :: 10 :: tn) := Lib.hid rfl
            rw [HW.out] at HNX
            go_wp2_with fail
            exact ⟨⟨_, i + 1, i + 1, rfl, rfl, rfl, HNX, trivial⟩, by simp [RowKit.intOf]; omega⟩
          | cons d t =>
            clear HC
            have htc : t.length ≤ 400 := by simp at hcu; omega
            clear hcu
            cases h59 : d == (59 : UInt8)
            · have t59 : ((d.toNat : Int) == 59) = false := by have := u8_beq d 59; rw [h59] at this; exact this
              have t59b : ((d.toNat : Int) != 59) = true := by unfold bne; rw [t59]; rfl
              have HW : Hid (Ab.wrapL (d :: t) ++ 10 :: tn = 32 :: 32 :: (d :: t ++ 32 :: 10 :: tn)) := Lib.hid (by
                have : Ab.nx 59 (d :: t) = false := by simpa [Ab.nx] using h59
                unfold Ab.wrapL
                rw [this]
                simp)
              rw [HW.out] at HNX
              clear h59
              go_wp2_with fail
              exact ⟨⟨_, i + 1, i + 1, rfl, rfl, rfl, HNX, trivial⟩, by simp [RowKit.intOf]; omega⟩
            · have t59 : ((d.toNat : Int) == 59) = true := by have := u8_beq d 59; rw [h59] at this; exact this
              have t59b : ((d.toNat : Int) != 59) = false := by unfold bne; rw [t59]; rfl
              have HW : Hid (Ab.wrapL (d :: t) ++ 10 :: tn = d :: t ++ 10 :: tn) := Lib.hid (by
                have : Ab.nx 59 (d :: t) = true := by simpa [Ab.nx] using h59
                unfold Ab.wrapL
                rw [if_pos this])
              rw [HW.out] at HNX
              clear h59
              go_wp2_with fail
              exact ⟨⟨_, i + 1, i + 1, rfl, rfl, rfl, HNX, trivial⟩, by simp [RowKit.intOf]; omega⟩
      · have e1 : decide ((i : Int) ≤ (text.length : Int)) = false := decide_eq_false (by omega)
        have htl := Ab.rw_len HST.out h4
        obtain rfl := Ab.rw_end HST.out hi
        clear HST
        obtain ⟨⟨ln2, h2⟩, h3⟩ := HRT.out
        have H3 := Lib.hid h3
        have H2 := Lib.hid h2
        clear h2 h3 HRT
        go_wp2_with fail
        refine (read_any (Ab.turn text) m (HMM.out _ HB.out)).mono ?_
        rintro e w2 ⟨B2, hO2⟩
        rw [H2.out] at hO2
        obtain ⟨g2, b2, A2, c2, v2, rfl, hG2, hS2⟩ := hO2
        have HG1 := Lib.hid (HG.out.below B2)
        have HG2 := Lib.hid hG2
        have HS2 := Lib.hid hS2
        replace HB := Lib.hid (bthen HB.out B2)
        clear B2 hG2 hS2
        go_wp2_with fail
        refine (read_any (Ab.zline ++ 10 :: Ab.turn text) m (HMM.out _ HB.out)).mono ?_
        rintro e w3 ⟨B3, hO3⟩
        replace HG1 := Lib.hid (HG1.out.below B3)
        replace HG2 := Lib.hid (HG2.out.below B3)
        replace HB := Lib.hid (bthen HB.out B3)
        clear B3
        have HHZ := Lib.hid (has_any Ab.zz (by decide) HG1.out.cells.2.1 HG1.out.map)
        rcases H3.out with ⟨ln3, h3⟩ | ⟨j, h3⟩ | ⟨j, h3, hzz⟩
        · rw [h3] at hO3
          obtain ⟨g3, b3, A3, c3, v3, rfl, hG3, hS3⟩ := hO3
          have HG3 := Lib.hid hG3
          have HS3 := Lib.hid hS3
          have hzf : hasR rs Ab.zz = false := by
            cases hx : hasR rs Ab.zz
            · rfl
            · have h5 := hS3.nod
              rw [List.map_cons, List.nodup_cons, List.map_reverse, List.mem_reverse] at h5
              exact absurd (Ab.hasR_mem.1 hx) h5.1
          have HZF := Lib.hid hzf
          clear hG3 hS3 hzf h3
          go_wp2_with fail
          refine (derives_tells HG1.out HS.out rule HN.out.1 w (by have := HN.out.2.1; omega)).mono ?_
          rintro e w4 ⟨ba, xa, rfl, hTa, B4⟩
          have HTA := Lib.hid hTa
          replace HB := Lib.hid (bthen HB.out B4)
          replace HG2 := Lib.hid (HG2.out.below B4)
          have HBD := Lib.hid B4
          clear hTa B4
          go_wp2_with fail
          refine (derives_tells HG2.out HS2.out rule HN.out.1 w (by have := HN.out.2.1; omega)).mono ?_
          rintro e w5 ⟨bb, xb, rfl, hTb, B5⟩
          obtain ⟨rfl, rfl⟩ := Ab.tells_turned HS.out.nod HTA.out hTb
          replace HB := Lib.hid (bthen HB.out B5)
          replace HBD := Lib.hid (bthen HBD.out B5)
          clear hTb B5
          replace HG3 := Lib.hid (HG3.out.below HBD.out)
          by_cases hrz : rule = Ab.zz
          · go_wp2_with fail
            refine (awake_any m (HMM.out _ HB.out)).mono ?_
            rintro e w9 ⟨rfl, B9⟩
            replace HB := Lib.hid (bthen HB.out B9)
            clear B9
            go_wp2_with fail
            go_ret
            exact ⟨rfl, HB.out⟩
          · have HRZ := Lib.hid hrz
            clear hrz
            go_wp2_with fail
            ·
              refine (awake_any m (HMM.out _ HB.out)).mono ?_
              rintro e w9 ⟨rfl, B9⟩
              replace HB := Lib.hid (bthen HB.out B9)
              clear B9
              go_wp2_with fail
              go_ret
              exact ⟨rfl, HB.out⟩
            · refine (derives_tells HG3.out HS3.out rule HN.out.1 w (by have := HN.out.2.1; omega)).mono ?_
              rintro e w6 ⟨bc, xc, rfl, hTc, B6⟩
              obtain ⟨rfl, rfl⟩ := Ab.tells_more HS.out.nod (Ab.cl_of HS.out.has) HZF.out HRZ.out HTA.out hTc
              replace HB := Lib.hid (bthen HB.out B6)
              clear hTc B6
              go_wp2_with fail
              refine (awake_any m (HMM.out _ HB.out)).mono ?_
              rintro e w9 ⟨rfl, B9⟩
              replace HB := Lib.hid (bthen HB.out B9)
              clear B9
              go_wp2_with fail
              go_ret
              exact ⟨rfl, HB.out⟩
        · rw [h3] at hO3
          obtain rfl := hO3
          cases hx : hasR rs Ab.zz
          · rw [hx] at HHZ
            clear hx h3
            go_wp2_with fail
            refine HHZ.out.mono ?_
            rintro e w8 ⟨rfl, rfl⟩
            go_wp2_with fail
            refine (awake_any m (HMM.out _ HB.out)).mono ?_
            rintro e w9 ⟨rfl, B9⟩
            replace HB := Lib.hid (bthen HB.out B9)
            clear B9
            go_wp2_with fail
            go_ret
            exact ⟨rfl, HB.out⟩
          · rw [hx] at HHZ
            clear hx h3
            go_wp2_with fail
            refine HHZ.out.mono ?_
            rintro e w8 ⟨rfl, rfl⟩
            go_wp2_with fail
            refine (derives_tells HG1.out HS.out rule HN.out.1 w (by have := HN.out.2.1; omega)).mono ?_
            rintro e w4 ⟨ba, xa, rfl, hTa, B4⟩
            have HTA := Lib.hid hTa
            replace HB := Lib.hid (bthen HB.out B4)
            replace HG2 := Lib.hid (HG2.out.below B4)
            have HBD := Lib.hid B4
            clear hTa B4
            go_wp2_with fail
            refine (derives_tells HG2.out HS2.out rule HN.out.1 w (by have := HN.out.2.1; omega)).mono ?_
            rintro e w5 ⟨bb, xb, rfl, hTb, B5⟩
            obtain ⟨rfl, rfl⟩ := Ab.tells_turned HS.out.nod HTA.out hTb
            replace HB := Lib.hid (bthen HB.out B5)
            replace HBD := Lib.hid (bthen HBD.out B5)
            clear hTb B5
            go_wp2_with fail
            refine (awake_any m (HMM.out _ HB.out)).mono ?_
            rintro e w9 ⟨rfl, B9⟩
            replace HB := Lib.hid (bthen HB.out B9)
            clear B9
            go_wp2_with fail
            go_ret
            exact ⟨rfl, HB.out⟩
        · rw [h3] at hO3
          obtain rfl := hO3
          rw [hzz] at HHZ
          clear h3 hzz
          go_wp2_with fail
          refine HHZ.out.mono ?_
          rintro e w8 ⟨rfl, rfl⟩
          go_wp2_with fail
          refine (derives_tells HG1.out HS.out rule HN.out.1 w (by have := HN.out.2.1; omega)).mono ?_
          rintro e w4 ⟨ba, xa, rfl, hTa, B4⟩
          have HTA := Lib.hid hTa
          replace HB := Lib.hid (bthen HB.out B4)
          replace HG2 := Lib.hid (HG2.out.below B4)
          have HBD := Lib.hid B4
          clear hTa B4
          go_wp2_with fail
          refine (derives_tells HG2.out HS2.out rule HN.out.1 w (by have := HN.out.2.1; omega)).mono ?_
          rintro e w5 ⟨bb, xb, rfl, hTb, B5⟩
          obtain ⟨rfl, rfl⟩ := Ab.tells_turned HS.out.nod HTA.out hTb
          replace HB := Lib.hid (bthen HB.out B5)
          replace HBD := Lib.hid (bthen HBD.out B5)
          clear hTb B5
          go_wp2_with fail
          refine (awake_any m (HMM.out _ HB.out)).mono ?_
          rintro e w9 ⟨rfl, B9⟩
          replace HB := Lib.hid (bthen HB.out B9)
          clear B9
          go_wp2_with fail
          go_ret
          exact ⟨rfl, HB.out⟩
set_option maxHeartbeats 3200000 in
theorem rows_many (text rule w : List UInt8) (h4 : 400 < text.length) (m : Int) (hm : W.cell? ⟨0, 0, none⟩ = some (.int .i64 m)) : Calls Tryd.prog 4 #[.string ⟨text.toArray⟩, .string ⟨rule.toArray⟩, .string ⟨w.toArray⟩] W fun e w' => e = .returned (.bool true) ∧ Below W.heap.size W w' := by
  have HMM := Lib.hid (fun (z : World) (B : Below W.heap.size W z) => pw_cell_below B hm)
  have HB := Lib.hid (Below.refl W.heap.size W)
  have t1 : decide ((400 : Int) < (text.length : Int)) = true := decide_eq_true (by omega)
  clear hm
  go_enter Tryd.func4, Tryd.ntmps4
  go_wp2_with fail
  refine (awake_any m (HMM.out _ HB.out)).mono ?_
  rintro e w9 ⟨rfl, B9⟩
  replace HB := Lib.hid (bthen HB.out B9)
  clear B9
  go_wp2_with fail
  go_ret
  exact ⟨rfl, HB.out⟩
theorem rows_row (t : ByteArray) (ht : t.size ≤ maxLen) (r : ByteArray) (hr : r.size ≤ maxLen) (d : ByteArray) (hd : d.size ≤ maxLen) (W : World) (h : ∃ m, W.cell? ⟨0, 0, none⟩ = some (.int .i64 m)) : Calls Tryd.prog 4 #[.string t, .string r, .string d] W fun e w' => e = .returned (.bool true) ∧ Below W.heap.size W w' := by
  obtain ⟨m, hm⟩ := h
  have hr' : r.data.toList.length ≤ maxLen := by rw [data_length]; exact hr
  rw [str_eq t, str_eq r, str_eq d]
  by_cases h4 : t.data.toList.length ≤ 400
  · by_cases hw : d.data.toList.length ≤ 20
    · exact rows_short _ _ _ hr' hw h4 m hm
    · exact rows_long _ _ _ hr' (by omega) h4 m hm
  · exact rows_many _ _ _ (by omega) m hm
end
end Go.Proofs.YtckcgiimeaklcaaDoor
