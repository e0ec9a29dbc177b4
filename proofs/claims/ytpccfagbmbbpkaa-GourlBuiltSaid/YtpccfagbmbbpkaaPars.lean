/-
  gourl.Parse: what is told of any text.
-/
import Derived.Test.YtpccfagbmbbpkaaRooted
namespace Go.Proofs.Ytpccfagbmbbpkaa
open Go.RowKit Go.Proofs.YtpccfagbmbbpkaaW.PrintWords

theorem all_NC (l : Pc.B) : (l.all fun c => Gu.NC.has c.toNat) = l.all fun c => !Gu.ctl c.toNat := by
  congr 1
  funext c
  rw [Gu.has_NC _ c.toNat_lt]
theorem idx_mem (c : UInt8) (l : Pc.B) : decide (0 ≤ Lib.indexByte l c) = Gu.mem l c.toNat := by
  induction l with
  | nil => rfl
  | cons d t ih =>
    unfold Gu.mem at ih ⊢
    rw [List.any_cons, ← ih]
    have hb := Lib.indexByte_ge t c
    by_cases hd : d = c
    · subst hd; simp [Lib.indexByte]
    · have h1 : (d == c) = false := by simpa using hd
      have h2 : decide (d.toNat = c.toNat) = false := by simpa using fun e => hd (UInt8.toNat_inj.mp e)
      rw [h2, Bool.false_or]
      simp only [Lib.indexByte, h1]
      by_cases h3 : Lib.indexByte t c = -1
      · rw [h3]; rfl
      · have h4 : (Lib.indexByte t c == -1) = false := by simpa using h3
        rw [h4]
        simp only [Bool.false_eq_true, if_false]
        rw [Bool.eq_iff_iff]; simp; omega
/-- The start of a text that is looked at: its bytes, and what stands behind. -/
theorem nc_eq : ((W4.range 0 31).or (W4.ofList [127])).not = Gu.NC := rfl
theorem bat1 (w : World) (c : UInt8) : BAt (w.alloc (.cells #[.int .u8 (c.toNat : Int)] 5)) w.heap.size [c] := by
  intro j hj
  have hj0 : j = 0 := by simp at hj; omega
  subst hj0
  have := blk_cell (blk_new w (.cells #[.int .u8 (c.toNat : Int)] 5)) 0
  exact this
section
variable (l : Pc.B) (hl : l.length ≤ 1000000)
include hl
theorem bef_le (c : UInt8) : (Gu.bef c l).length ≤ 1000000 := by have := Gu.bef_len c l; omega
theorem aft_le (c : UInt8) : (Gu.aft c l).length ≤ 1000000 := by
  rcases idx_cases c l with ⟨_, _, h⟩ | ⟨k, _, _, _, h⟩ <;> rw [h] <;> simp <;> omega
end
set_option maxHeartbeats 3200000 in
theorem parse_1 (l : Pc.B) (hl : l.length ≤ 1000000) (hv : Pc.valid (Gu.aft 35 l) = false) (w : World) : Calls Try.prog 9 #[.string ⟨l.toArray⟩] w fun e w' => e = .returned (res none) ∧ Below w.heap.size w w' := by
  have HVA := Lib.hid (fun w => valid_any (Gu.aft 35 l) (by have := aft_le l hl 35; omega) w)
  rw [hv] at HVA
  clear hv
  go_enter Try.func9, Try.ntmps9
  go_wp2_with fail
  refine (cut_one 35 l hl _).mono ?_
  rintro e w1 ⟨rfl, n1, rfl⟩
  have HB := below_drewN (w.alloc (.cells #[.bool false, .string ⟨#[]⟩, .string ⟨#[]⟩] 24)) n1
  generalize (w.alloc (.cells #[.bool false, .string ⟨#[]⟩, .string ⟨#[]⟩] 24)).drewN n1 = w1 at HB ⊢
  go_wp2_with fail
  refine (HVA.out _).mono ?_
  rintro e w2 ⟨rfl, rfl⟩
  have KR := blk_below (blk_new w (.cells #[.bool false, .string ⟨#[]⟩, .string ⟨#[]⟩] 24)) HB
  have HB1 : Below w.heap.size w w1 := ((Below.refl _ _).alloc (Nat.le_refl _) _).trans (HB.mono (by simp))
  have rc0 := blk_cell KR 0
  have rf0 := blk_frozen KR 0
  have rc1 := blk_cell KR 1
  have rf1 := blk_frozen KR 1
  have rc2 := blk_cell KR 2
  have rf2 := blk_frozen KR 2
  simp at rc0 rc1 rc2
  clear KR HB
  go_wp2_with fail
  exact bodyPost_ret (v := res none) (by first | (simp [results, Try.results9, go_sem, res, rc0, rc1, rc2]; done) | (simp [results, Try.results9, go_sem, res, rc0, rc1, rc2]; rfl)) rfl ⟨rfl, by (repeat (first | exact Below.refl _ _ | assumption | refine Below.drew ?_ | refine Below.alloc ?_ (by first | exact Nat.le_refl _ | (simp; done) | (simp; omega) | omega) _ | refine Below.setCell ?_ (by first | exact Nat.le_refl _ | (simp; done) | (simp; omega) | omega) _))⟩
set_option maxHeartbeats 3200000 in
theorem parse_2 (l : Pc.B) (hl : l.length ≤ 1000000) (hv : Pc.valid (Gu.aft 35 l) = true) (ho : ((Gu.bef 35 l).all fun c => !Gu.ctl c.toNat) = false) (w : World) : Calls Try.prog 9 #[.string ⟨l.toArray⟩] w fun e w' => e = .returned (res none) ∧ Below w.heap.size w w' := by
  have HVA := Lib.hid (fun w => valid_any (Gu.aft 35 l) (by have := aft_le l hl 35; omega) w)
  rw [hv] at HVA
  have HOF := Lib.hid (gof_any (Gu.bef 35 l) (bef_le l hl 35) Gu.NC Gu.ok_NC)
  rw [all_NC, ho] at HOF
  clear hv ho
  go_enter Try.func9, Try.ntmps9
  go_wp2_with fail
  refine (cut_one 35 l hl _).mono ?_
  rintro e w1 ⟨rfl, n1, rfl⟩
  have HB := below_drewN (w.alloc (.cells #[.bool false, .string ⟨#[]⟩, .string ⟨#[]⟩] 24)) n1
  generalize (w.alloc (.cells #[.bool false, .string ⟨#[]⟩, .string ⟨#[]⟩] 24)).drewN n1 = w1 at HB ⊢
  go_wp2_with fail
  refine (HVA.out _).mono ?_
  rintro e w2 ⟨rfl, rfl⟩
  go_wp2_with fail
  refine (range_any 0 31 (by omega) (by omega) _).mono ?_
  rintro e w2 ⟨rfl, B2⟩
  replace HB := bthen HB B2
  clear B2
  go_wp2_with fail
  have hb0 : w2.heap.size < (w2.alloc (.cells #[.int .u8 127] 5)).heap.size := by simp
  have hbt : BAt (w2.alloc (.cells #[.int .u8 127] 5)) w2.heap.size [127] := bat1 w2 127
  have B3 : Below w2.heap.size w2 (w2.alloc (.cells #[.int .u8 127] 5)) := (Below.refl _ _).alloc (Nat.le_refl _) _
  generalize w2.alloc (.cells #[.int .u8 127] 5) = w3 at hb0 hbt B3 ⊢
  refine (of_any w2.heap.size _ [127] (by simp) _ hb0 hbt).mono ?_
  rintro e w4 ⟨rfl, B4⟩
  replace HB := bthen (bthen HB B3) B4
  clear B3 B4 hb0 hbt
  go_wp2_with fail
  refine (or_any _ _ (W4.ok_range _ _) (W4.ok_ofList _) _).mono ?_
  rintro e w5 ⟨rfl, B5⟩
  replace HB := bthen HB B5
  clear B5
  go_wp2_with fail
  refine (not_any _ (W4.ok_or (W4.ok_range _ _) (W4.ok_ofList _)) _).mono ?_
  rw [nc_eq]
  rintro e w6 ⟨rfl, B6⟩
  replace HB := bthen HB B6
  clear B6
  go_wp2_with fail
  refine (HOF.out _).mono ?_
  rintro e w7 ⟨rfl, B7⟩
  replace HB := bthen HB B7
  clear B7
  have KR := blk_below (blk_new w (.cells #[.bool false, .string ⟨#[]⟩, .string ⟨#[]⟩] 24)) HB
  have HB1 : Below w.heap.size w w7 := ((Below.refl _ _).alloc (Nat.le_refl _) _).trans (HB.mono (by simp))
  have rc0 := blk_cell KR 0
  have rf0 := blk_frozen KR 0
  have rc1 := blk_cell KR 1
  have rf1 := blk_frozen KR 1
  have rc2 := blk_cell KR 2
  have rf2 := blk_frozen KR 2
  simp at rc0 rc1 rc2
  clear KR HB
  go_wp2_with fail
  exact bodyPost_ret (v := res none) (by first | (simp [results, Try.results9, go_sem, res, rc0, rc1, rc2]; done) | (simp [results, Try.results9, go_sem, res, rc0, rc1, rc2]; rfl)) rfl ⟨rfl, by (repeat (first | exact Below.refl _ _ | assumption | refine Below.drew ?_ | refine Below.alloc ?_ (by first | exact Nat.le_refl _ | (simp; done) | (simp; omega) | omega) _ | refine Below.setCell ?_ (by first | exact Nat.le_refl _ | (simp; done) | (simp; omega) | omega) _))⟩
set_option maxHeartbeats 3200000 in
theorem parse_3 (l : Pc.B) (hl : l.length ≤ 1000000) (hv : Pc.valid (Gu.aft 35 l) = true) (ho : ((Gu.bef 35 l).all fun c => !Gu.ctl c.toNat) = true) (n : Int) (hs : Gu.sch 0 (Gu.bef 35 l) = (n, false)) (w : World) : Calls Try.prog 9 #[.string ⟨l.toArray⟩] w fun e w' => e = .returned (res none) ∧ Below w.heap.size w w' := by
  have HVA := Lib.hid (fun w => valid_any (Gu.aft 35 l) (by have := aft_le l hl 35; omega) w)
  rw [hv] at HVA
  have HOF := Lib.hid (gof_any (Gu.bef 35 l) (bef_le l hl 35) Gu.NC Gu.ok_NC)
  rw [all_NC, ho] at HOF
  have HSC := Lib.hid (scheme_any (Gu.bef 35 l) (bef_le l hl 35))
  rw [hs] at HSC
  clear hv ho hs
  go_enter Try.func9, Try.ntmps9
  go_wp2_with fail
  refine (cut_one 35 l hl _).mono ?_
  rintro e w1 ⟨rfl, n1, rfl⟩
  have HB := below_drewN (w.alloc (.cells #[.bool false, .string ⟨#[]⟩, .string ⟨#[]⟩] 24)) n1
  generalize (w.alloc (.cells #[.bool false, .string ⟨#[]⟩, .string ⟨#[]⟩] 24)).drewN n1 = w1 at HB ⊢
  go_wp2_with fail
  refine (HVA.out _).mono ?_
  rintro e w2 ⟨rfl, rfl⟩
  go_wp2_with fail
  refine (range_any 0 31 (by omega) (by omega) _).mono ?_
  rintro e w2 ⟨rfl, B2⟩
  replace HB := bthen HB B2
  clear B2
  go_wp2_with fail
  have hb0 : w2.heap.size < (w2.alloc (.cells #[.int .u8 127] 5)).heap.size := by simp
  have hbt : BAt (w2.alloc (.cells #[.int .u8 127] 5)) w2.heap.size [127] := bat1 w2 127
  have B3 : Below w2.heap.size w2 (w2.alloc (.cells #[.int .u8 127] 5)) := (Below.refl _ _).alloc (Nat.le_refl _) _
  generalize w2.alloc (.cells #[.int .u8 127] 5) = w3 at hb0 hbt B3 ⊢
  refine (of_any w2.heap.size _ [127] (by simp) _ hb0 hbt).mono ?_
  rintro e w4 ⟨rfl, B4⟩
  replace HB := bthen (bthen HB B3) B4
  clear B3 B4 hb0 hbt
  go_wp2_with fail
  refine (or_any _ _ (W4.ok_range _ _) (W4.ok_ofList _) _).mono ?_
  rintro e w5 ⟨rfl, B5⟩
  replace HB := bthen HB B5
  clear B5
  go_wp2_with fail
  refine (not_any _ (W4.ok_or (W4.ok_range _ _) (W4.ok_ofList _)) _).mono ?_
  rw [nc_eq]
  rintro e w6 ⟨rfl, B6⟩
  replace HB := bthen HB B6
  clear B6
  go_wp2_with fail
  refine (HOF.out _).mono ?_
  rintro e w7 ⟨rfl, B7⟩
  replace HB := bthen HB B7
  clear B7
  go_wp2_with fail
  refine (HSC.out _).mono ?_
  rintro e w8 ⟨rfl, B8⟩
  replace HB := bthen HB B8
  clear B8
  have KR := blk_below (blk_new w (.cells #[.bool false, .string ⟨#[]⟩, .string ⟨#[]⟩] 24)) HB
  have HB1 : Below w.heap.size w w8 := ((Below.refl _ _).alloc (Nat.le_refl _) _).trans (HB.mono (by simp))
  have rc0 := blk_cell KR 0
  have rf0 := blk_frozen KR 0
  have rc1 := blk_cell KR 1
  have rf1 := blk_frozen KR 1
  have rc2 := blk_cell KR 2
  have rf2 := blk_frozen KR 2
  simp at rc0 rc1 rc2
  clear KR HB
  go_wp2_with fail
  exact bodyPost_ret (v := res none) (by first | (simp [results, Try.results9, go_sem, res, rc0, rc1, rc2]; done) | (simp [results, Try.results9, go_sem, res, rc0, rc1, rc2]; rfl)) rfl ⟨rfl, by (repeat (first | exact Below.refl _ _ | assumption | refine Below.drew ?_ | refine Below.alloc ?_ (by first | exact Nat.le_refl _ | (simp; done) | (simp; omega) | omega) _ | refine Below.setCell ?_ (by first | exact Nat.le_refl _ | (simp; done) | (simp; omega) | omega) _))⟩
set_option maxHeartbeats 3200000 in
theorem parse_p_pre (l : Pc.B) (hl : l.length ≤ 1000000) (hv : Pc.valid (Gu.aft 35 l) = true) (ho : ((Gu.bef 35 l).all fun c => !Gu.ctl c.toNat) = true) (k : Nat) (hs : Gu.sch 0 (Gu.bef 35 l) = ((k : Int), true)) (hk : k < (Gu.bef 35 l).length) (hp : Lib.hasPrefix (Gu.bef 63 ((Gu.bef 35 l).drop (k + 1))) [47] = true)  (w : World) : Calls Try.prog 9 #[.string ⟨l.toArray⟩] w fun e w' => e = .returned (res (Gu.rooted (Gu.bef 63 ((Gu.bef 35 l).drop (k + 1))) true)) ∧ Below w.heap.size w w' := by
  have HVA := Lib.hid (fun w => valid_any (Gu.aft 35 l) (by have := aft_le l hl 35; omega) w)
  rw [hv] at HVA
  have HOF := Lib.hid (gof_any (Gu.bef 35 l) (bef_le l hl 35) Gu.NC Gu.ok_NC)
  rw [all_NC, ho] at HOF
  have HSC := Lib.hid (scheme_any (Gu.bef 35 l) (bef_le l hl 35))
  rw [hs] at HSC
  have hD : ((Gu.bef 35 l).drop (k + 1)).length ≤ 1000000 := by have := bef_le l hl 35; simp; omega
  have hR : (Gu.bef 63 ((Gu.bef 35 l).drop (k + 1))).length ≤ 1000000 := bef_le _ hD 63
  have HC2 := Lib.hid (fun w => cut_one 63 ((Gu.bef 35 l).drop (k + 1)) hD w)
  have HP := Lib.hid (fun w => Try.strings_HasPrefix ⟨(Gu.bef 63 ((Gu.bef 35 l).drop (k + 1))).toArray⟩ ⟨#[47]⟩ w)
  rw [show (ByteArray.mk (Gu.bef 63 ((Gu.bef 35 l).drop (k + 1))).toArray).data.toList = (Gu.bef 63 ((Gu.bef 35 l).drop (k + 1))) from rfl, show (ByteArray.mk #[47]).data.toList = [47] from rfl, hp] at HP
  have f1 : (0 : Int) ≤ (k : Int) := by omega
  have f2 : (k : Int) + 1 ≤ ((Gu.bef 35 l).length : Int) := by omega
  have f3 : IntKind.i64.wrap ((k : Int) + 1) = (k : Int) + 1 := IntWalk.i64_in _ (by have := bef_le l hl 35; omega)
  have HRO := Lib.hid (fun w => rooted_any (Gu.bef 63 ((Gu.bef 35 l).drop (k + 1))) hR true w)
  clear hv ho hs hp hk
  generalize Gu.rooted (Gu.bef 63 ((Gu.bef 35 l).drop (k + 1))) true = o at HRO ⊢
  go_enter Try.func9, Try.ntmps9
  go_wp2_with fail
  refine (cut_one 35 l hl _).mono ?_
  rintro e w1 ⟨rfl, n1, rfl⟩
  have HB := below_drewN (w.alloc (.cells #[.bool false, .string ⟨#[]⟩, .string ⟨#[]⟩] 24)) n1
  generalize (w.alloc (.cells #[.bool false, .string ⟨#[]⟩, .string ⟨#[]⟩] 24)).drewN n1 = w1 at HB ⊢
  go_wp2_with fail
  refine (HVA.out _).mono ?_
  rintro e w2 ⟨rfl, rfl⟩
  go_wp2_with fail
  refine (range_any 0 31 (by omega) (by omega) _).mono ?_
  rintro e w2 ⟨rfl, B2⟩
  replace HB := bthen HB B2
  clear B2
  go_wp2_with fail
  have hb0 : w2.heap.size < (w2.alloc (.cells #[.int .u8 127] 5)).heap.size := by simp
  have hbt : BAt (w2.alloc (.cells #[.int .u8 127] 5)) w2.heap.size [127] := bat1 w2 127
  have B3 : Below w2.heap.size w2 (w2.alloc (.cells #[.int .u8 127] 5)) := (Below.refl _ _).alloc (Nat.le_refl _) _
  generalize w2.alloc (.cells #[.int .u8 127] 5) = w3 at hb0 hbt B3 ⊢
  refine (of_any w2.heap.size _ [127] (by simp) _ hb0 hbt).mono ?_
  rintro e w4 ⟨rfl, B4⟩
  replace HB := bthen (bthen HB B3) B4
  clear B3 B4 hb0 hbt
  go_wp2_with fail
  refine (or_any _ _ (W4.ok_range _ _) (W4.ok_ofList _) _).mono ?_
  rintro e w5 ⟨rfl, B5⟩
  replace HB := bthen HB B5
  clear B5
  go_wp2_with fail
  refine (not_any _ (W4.ok_or (W4.ok_range _ _) (W4.ok_ofList _)) _).mono ?_
  rw [nc_eq]
  rintro e w6 ⟨rfl, B6⟩
  replace HB := bthen HB B6
  clear B6
  go_wp2_with fail
  refine (HOF.out _).mono ?_
  rintro e w7 ⟨rfl, B7⟩
  replace HB := bthen HB B7
  clear B7
  go_wp2_with fail
  refine (HSC.out _).mono ?_
  rintro e w8 ⟨rfl, B8⟩
  replace HB := bthen HB B8
  clear B8
  go_wp2_with fail
  refine (HC2.out _).mono ?_
  rintro e w9 ⟨rfl, n9, rfl⟩
  replace HB := bthen HB (below_drewN _ n9)
  generalize w8.drewN n9 = w9 at HB ⊢
  go_wp2_with fail
  refine (HP.out _).mono ?_
  rintro e w10 ⟨rfl, rfl⟩
  go_wp2_with fail
  refine (HRO.out _).mono ?_
  rintro e w13 ⟨rfl, B12⟩
  replace HB := bthen HB B12
  clear B12
  have KR := blk_below (blk_new w (.cells #[.bool false, .string ⟨#[]⟩, .string ⟨#[]⟩] 24)) HB
  have HB1 : Below w.heap.size w w13 := ((Below.refl _ _).alloc (Nat.le_refl _) _).trans (HB.mono (by simp))
  have rc0 := blk_cell KR 0
  have rf0 := blk_frozen KR 0
  have rc1 := blk_cell KR 1
  have rf1 := blk_frozen KR 1
  have rc2 := blk_cell KR 2
  have rf2 := blk_frozen KR 2
  simp at rc0 rc1 rc2
  clear KR HB
  rcases o with _ | ⟨h, p⟩
  · unfold res
    go_wp2_with fail
    exact bodyPost_ret (v := res none) (by first | (simp [results, Try.results9, go_sem, res, rc0, rc1, rc2]; done) | (simp [results, Try.results9, go_sem, res, rc0, rc1, rc2]; rfl)) rfl ⟨rfl, by (repeat (first | exact Below.refl _ _ | assumption | refine Below.drew ?_ | refine Below.alloc ?_ (by first | exact Nat.le_refl _ | (simp; done) | (simp; omega) | omega) _ | refine Below.setCell ?_ (by first | exact Nat.le_refl _ | (simp; done) | (simp; omega) | omega) _))⟩
  · unfold res
    go_wp2_with fail
    exact bodyPost_ret (v := res (some (h, p))) (by first | (simp [results, Try.results9, go_sem, res, rc0, rc1, rc2]; done) | (simp [results, Try.results9, go_sem, res, rc0, rc1, rc2]; rfl)) rfl ⟨rfl, by (repeat (first | exact Below.refl _ _ | assumption | refine Below.drew ?_ | refine Below.alloc ?_ (by first | exact Nat.le_refl _ | (simp; done) | (simp; omega) | omega) _ | refine Below.setCell ?_ (by first | exact Nat.le_refl _ | (simp; done) | (simp; omega) | omega) _))⟩
set_option maxHeartbeats 3200000 in
theorem parse_p_no (l : Pc.B) (hl : l.length ≤ 1000000) (hv : Pc.valid (Gu.aft 35 l) = true) (ho : ((Gu.bef 35 l).all fun c => !Gu.ctl c.toNat) = true) (k : Nat) (hs : Gu.sch 0 (Gu.bef 35 l) = ((k : Int), true)) (hk : k < (Gu.bef 35 l).length) (hp : Lib.hasPrefix (Gu.bef 63 ((Gu.bef 35 l).drop (k + 1))) [47] = false)  (w : World) : Calls Try.prog 9 #[.string ⟨l.toArray⟩] w fun e w' => e = .returned (res (some ([], []))) ∧ Below w.heap.size w w' := by
  have HVA := Lib.hid (fun w => valid_any (Gu.aft 35 l) (by have := aft_le l hl 35; omega) w)
  rw [hv] at HVA
  have HOF := Lib.hid (gof_any (Gu.bef 35 l) (bef_le l hl 35) Gu.NC Gu.ok_NC)
  rw [all_NC, ho] at HOF
  have HSC := Lib.hid (scheme_any (Gu.bef 35 l) (bef_le l hl 35))
  rw [hs] at HSC
  have hD : ((Gu.bef 35 l).drop (k + 1)).length ≤ 1000000 := by have := bef_le l hl 35; simp; omega
  have hR : (Gu.bef 63 ((Gu.bef 35 l).drop (k + 1))).length ≤ 1000000 := bef_le _ hD 63
  have HC2 := Lib.hid (fun w => cut_one 63 ((Gu.bef 35 l).drop (k + 1)) hD w)
  have HP := Lib.hid (fun w => Try.strings_HasPrefix ⟨(Gu.bef 63 ((Gu.bef 35 l).drop (k + 1))).toArray⟩ ⟨#[47]⟩ w)
  rw [show (ByteArray.mk (Gu.bef 63 ((Gu.bef 35 l).drop (k + 1))).toArray).data.toList = (Gu.bef 63 ((Gu.bef 35 l).drop (k + 1))) from rfl, show (ByteArray.mk #[47]).data.toList = [47] from rfl, hp] at HP
  have f1 : (0 : Int) ≤ (k : Int) := by omega
  have f2 : (k : Int) + 1 ≤ ((Gu.bef 35 l).length : Int) := by omega
  have f3 : IntKind.i64.wrap ((k : Int) + 1) = (k : Int) + 1 := IntWalk.i64_in _ (by have := bef_le l hl 35; omega)
  clear hv ho hs hp hk
  go_enter Try.func9, Try.ntmps9
  go_wp2_with fail
  refine (cut_one 35 l hl _).mono ?_
  rintro e w1 ⟨rfl, n1, rfl⟩
  have HB := below_drewN (w.alloc (.cells #[.bool false, .string ⟨#[]⟩, .string ⟨#[]⟩] 24)) n1
  generalize (w.alloc (.cells #[.bool false, .string ⟨#[]⟩, .string ⟨#[]⟩] 24)).drewN n1 = w1 at HB ⊢
  go_wp2_with fail
  refine (HVA.out _).mono ?_
  rintro e w2 ⟨rfl, rfl⟩
  go_wp2_with fail
  refine (range_any 0 31 (by omega) (by omega) _).mono ?_
  rintro e w2 ⟨rfl, B2⟩
  replace HB := bthen HB B2
  clear B2
  go_wp2_with fail
  have hb0 : w2.heap.size < (w2.alloc (.cells #[.int .u8 127] 5)).heap.size := by simp
  have hbt : BAt (w2.alloc (.cells #[.int .u8 127] 5)) w2.heap.size [127] := bat1 w2 127
  have B3 : Below w2.heap.size w2 (w2.alloc (.cells #[.int .u8 127] 5)) := (Below.refl _ _).alloc (Nat.le_refl _) _
  generalize w2.alloc (.cells #[.int .u8 127] 5) = w3 at hb0 hbt B3 ⊢
  refine (of_any w2.heap.size _ [127] (by simp) _ hb0 hbt).mono ?_
  rintro e w4 ⟨rfl, B4⟩
  replace HB := bthen (bthen HB B3) B4
  clear B3 B4 hb0 hbt
  go_wp2_with fail
  refine (or_any _ _ (W4.ok_range _ _) (W4.ok_ofList _) _).mono ?_
  rintro e w5 ⟨rfl, B5⟩
  replace HB := bthen HB B5
  clear B5
  go_wp2_with fail
  refine (not_any _ (W4.ok_or (W4.ok_range _ _) (W4.ok_ofList _)) _).mono ?_
  rw [nc_eq]
  rintro e w6 ⟨rfl, B6⟩
  replace HB := bthen HB B6
  clear B6
  go_wp2_with fail
  refine (HOF.out _).mono ?_
  rintro e w7 ⟨rfl, B7⟩
  replace HB := bthen HB B7
  clear B7
  go_wp2_with fail
  refine (HSC.out _).mono ?_
  rintro e w8 ⟨rfl, B8⟩
  replace HB := bthen HB B8
  clear B8
  go_wp2_with fail
  refine (HC2.out _).mono ?_
  rintro e w9 ⟨rfl, n9, rfl⟩
  replace HB := bthen HB (below_drewN _ n9)
  generalize w8.drewN n9 = w9 at HB ⊢
  go_wp2_with fail
  refine (HP.out _).mono ?_
  rintro e w10 ⟨rfl, rfl⟩
  have KR := blk_below (blk_new w (.cells #[.bool false, .string ⟨#[]⟩, .string ⟨#[]⟩] 24)) HB
  have HB1 : Below w.heap.size w w10 := ((Below.refl _ _).alloc (Nat.le_refl _) _).trans (HB.mono (by simp))
  have rc0 := blk_cell KR 0
  have rf0 := blk_frozen KR 0
  have rc1 := blk_cell KR 1
  have rf1 := blk_frozen KR 1
  have rc2 := blk_cell KR 2
  have rf2 := blk_frozen KR 2
  simp at rc0 rc1 rc2
  clear KR HB
  go_wp2_with fail
  exact bodyPost_ret (v := res (some ([], []))) (by first | (simp [results, Try.results9, go_sem, res, rc0, rc1, rc2]; done) | (simp [results, Try.results9, go_sem, res, rc0, rc1, rc2]; rfl)) rfl ⟨rfl, by (repeat (first | exact Below.refl _ _ | assumption | refine Below.drew ?_ | refine Below.alloc ?_ (by first | exact Nat.le_refl _ | (simp; done) | (simp; omega) | omega) _ | refine Below.setCell ?_ (by first | exact Nat.le_refl _ | (simp; done) | (simp; omega) | omega) _))⟩
set_option maxHeartbeats 3200000 in
theorem parse_n_pre (l : Pc.B) (hl : l.length ≤ 1000000) (hv : Pc.valid (Gu.aft 35 l) = true) (ho : ((Gu.bef 35 l).all fun c => !Gu.ctl c.toNat) = true) (hs : Gu.sch 0 (Gu.bef 35 l) = (-1, true)) (hp : Lib.hasPrefix (Gu.bef 63 (Gu.bef 35 l)) [47] = true)  (w : World) : Calls Try.prog 9 #[.string ⟨l.toArray⟩] w fun e w' => e = .returned (res (Gu.rooted (Gu.bef 63 (Gu.bef 35 l)) false)) ∧ Below w.heap.size w w' := by
  have HVA := Lib.hid (fun w => valid_any (Gu.aft 35 l) (by have := aft_le l hl 35; omega) w)
  rw [hv] at HVA
  have HOF := Lib.hid (gof_any (Gu.bef 35 l) (bef_le l hl 35) Gu.NC Gu.ok_NC)
  rw [all_NC, ho] at HOF
  have HSC := Lib.hid (scheme_any (Gu.bef 35 l) (bef_le l hl 35))
  rw [hs] at HSC
  have hD : (Gu.bef 35 l).length ≤ 1000000 := by have := bef_le l hl 35; omega
  have hR : (Gu.bef 63 (Gu.bef 35 l)).length ≤ 1000000 := bef_le _ hD 63
  have HC2 := Lib.hid (fun w => cut_one 63 (Gu.bef 35 l) hD w)
  have HP := Lib.hid (fun w => Try.strings_HasPrefix ⟨(Gu.bef 63 (Gu.bef 35 l)).toArray⟩ ⟨#[47]⟩ w)
  rw [show (ByteArray.mk (Gu.bef 63 (Gu.bef 35 l)).toArray).data.toList = (Gu.bef 63 (Gu.bef 35 l)) from rfl, show (ByteArray.mk #[47]).data.toList = [47] from rfl, hp] at HP
  have HRO := Lib.hid (fun w => rooted_any (Gu.bef 63 (Gu.bef 35 l)) hR false w)
  clear hv ho hs hp
  generalize Gu.rooted (Gu.bef 63 (Gu.bef 35 l)) false = o at HRO ⊢
  go_enter Try.func9, Try.ntmps9
  go_wp2_with fail
  refine (cut_one 35 l hl _).mono ?_
  rintro e w1 ⟨rfl, n1, rfl⟩
  have HB := below_drewN (w.alloc (.cells #[.bool false, .string ⟨#[]⟩, .string ⟨#[]⟩] 24)) n1
  generalize (w.alloc (.cells #[.bool false, .string ⟨#[]⟩, .string ⟨#[]⟩] 24)).drewN n1 = w1 at HB ⊢
  go_wp2_with fail
  refine (HVA.out _).mono ?_
  rintro e w2 ⟨rfl, rfl⟩
  go_wp2_with fail
  refine (range_any 0 31 (by omega) (by omega) _).mono ?_
  rintro e w2 ⟨rfl, B2⟩
  replace HB := bthen HB B2
  clear B2
  go_wp2_with fail
  have hb0 : w2.heap.size < (w2.alloc (.cells #[.int .u8 127] 5)).heap.size := by simp
  have hbt : BAt (w2.alloc (.cells #[.int .u8 127] 5)) w2.heap.size [127] := bat1 w2 127
  have B3 : Below w2.heap.size w2 (w2.alloc (.cells #[.int .u8 127] 5)) := (Below.refl _ _).alloc (Nat.le_refl _) _
  generalize w2.alloc (.cells #[.int .u8 127] 5) = w3 at hb0 hbt B3 ⊢
  refine (of_any w2.heap.size _ [127] (by simp) _ hb0 hbt).mono ?_
  rintro e w4 ⟨rfl, B4⟩
  replace HB := bthen (bthen HB B3) B4
  clear B3 B4 hb0 hbt
  go_wp2_with fail
  refine (or_any _ _ (W4.ok_range _ _) (W4.ok_ofList _) _).mono ?_
  rintro e w5 ⟨rfl, B5⟩
  replace HB := bthen HB B5
  clear B5
  go_wp2_with fail
  refine (not_any _ (W4.ok_or (W4.ok_range _ _) (W4.ok_ofList _)) _).mono ?_
  rw [nc_eq]
  rintro e w6 ⟨rfl, B6⟩
  replace HB := bthen HB B6
  clear B6
  go_wp2_with fail
  refine (HOF.out _).mono ?_
  rintro e w7 ⟨rfl, B7⟩
  replace HB := bthen HB B7
  clear B7
  go_wp2_with fail
  refine (HSC.out _).mono ?_
  rintro e w8 ⟨rfl, B8⟩
  replace HB := bthen HB B8
  clear B8
  go_wp2_with fail
  refine (HC2.out _).mono ?_
  rintro e w9 ⟨rfl, n9, rfl⟩
  replace HB := bthen HB (below_drewN _ n9)
  generalize w8.drewN n9 = w9 at HB ⊢
  go_wp2_with fail
  refine (HP.out _).mono ?_
  rintro e w10 ⟨rfl, rfl⟩
  go_wp2_with fail
  refine (HRO.out _).mono ?_
  rintro e w13 ⟨rfl, B12⟩
  replace HB := bthen HB B12
  clear B12
  have KR := blk_below (blk_new w (.cells #[.bool false, .string ⟨#[]⟩, .string ⟨#[]⟩] 24)) HB
  have HB1 : Below w.heap.size w w13 := ((Below.refl _ _).alloc (Nat.le_refl _) _).trans (HB.mono (by simp))
  have rc0 := blk_cell KR 0
  have rf0 := blk_frozen KR 0
  have rc1 := blk_cell KR 1
  have rf1 := blk_frozen KR 1
  have rc2 := blk_cell KR 2
  have rf2 := blk_frozen KR 2
  simp at rc0 rc1 rc2
  clear KR HB
  rcases o with _ | ⟨h, p⟩
  · unfold res
    go_wp2_with fail
    exact bodyPost_ret (v := res none) (by first | (simp [results, Try.results9, go_sem, res, rc0, rc1, rc2]; done) | (simp [results, Try.results9, go_sem, res, rc0, rc1, rc2]; rfl)) rfl ⟨rfl, by (repeat (first | exact Below.refl _ _ | assumption | refine Below.drew ?_ | refine Below.alloc ?_ (by first | exact Nat.le_refl _ | (simp; done) | (simp; omega) | omega) _ | refine Below.setCell ?_ (by first | exact Nat.le_refl _ | (simp; done) | (simp; omega) | omega) _))⟩
  · unfold res
    go_wp2_with fail
    exact bodyPost_ret (v := res (some (h, p))) (by first | (simp [results, Try.results9, go_sem, res, rc0, rc1, rc2]; done) | (simp [results, Try.results9, go_sem, res, rc0, rc1, rc2]; rfl)) rfl ⟨rfl, by (repeat (first | exact Below.refl _ _ | assumption | refine Below.drew ?_ | refine Below.alloc ?_ (by first | exact Nat.le_refl _ | (simp; done) | (simp; omega) | omega) _ | refine Below.setCell ?_ (by first | exact Nat.le_refl _ | (simp; done) | (simp; omega) | omega) _))⟩
set_option maxHeartbeats 3200000 in
theorem parse_n_mem (l : Pc.B) (hl : l.length ≤ 1000000) (hv : Pc.valid (Gu.aft 35 l) = true) (ho : ((Gu.bef 35 l).all fun c => !Gu.ctl c.toNat) = true) (hs : Gu.sch 0 (Gu.bef 35 l) = (-1, true)) (hp : Lib.hasPrefix (Gu.bef 63 (Gu.bef 35 l)) [47] = false) (hm : Gu.mem (Gu.bef 47 (Gu.bef 63 (Gu.bef 35 l))) 58 = true) (w : World) : Calls Try.prog 9 #[.string ⟨l.toArray⟩] w fun e w' => e = .returned (res none) ∧ Below w.heap.size w w' := by
  have HVA := Lib.hid (fun w => valid_any (Gu.aft 35 l) (by have := aft_le l hl 35; omega) w)
  rw [hv] at HVA
  have HOF := Lib.hid (gof_any (Gu.bef 35 l) (bef_le l hl 35) Gu.NC Gu.ok_NC)
  rw [all_NC, ho] at HOF
  have HSC := Lib.hid (scheme_any (Gu.bef 35 l) (bef_le l hl 35))
  rw [hs] at HSC
  have hD : (Gu.bef 35 l).length ≤ 1000000 := by have := bef_le l hl 35; omega
  have hR : (Gu.bef 63 (Gu.bef 35 l)).length ≤ 1000000 := bef_le _ hD 63
  have HC2 := Lib.hid (fun w => cut_one 63 (Gu.bef 35 l) hD w)
  have HP := Lib.hid (fun w => Try.strings_HasPrefix ⟨(Gu.bef 63 (Gu.bef 35 l)).toArray⟩ ⟨#[47]⟩ w)
  rw [show (ByteArray.mk (Gu.bef 63 (Gu.bef 35 l)).toArray).data.toList = (Gu.bef 63 (Gu.bef 35 l)) from rfl, show (ByteArray.mk #[47]).data.toList = [47] from rfl, hp] at HP
  have hF : (Gu.bef 47 (Gu.bef 63 (Gu.bef 35 l))).length ≤ 1000000 := bef_le _ hR 47
  have HC3 := Lib.hid (fun w => cut_one 47 (Gu.bef 63 (Gu.bef 35 l)) hR w)
  have HCO := Lib.hid (fun w => Try.strings_Contains_one ⟨(Gu.bef 47 (Gu.bef 63 (Gu.bef 35 l))).toArray⟩ 58 w)
  rw [show (ByteArray.mk (Gu.bef 47 (Gu.bef 63 (Gu.bef 35 l))).toArray).data.toList = (Gu.bef 47 (Gu.bef 63 (Gu.bef 35 l))) from rfl, idx_mem, show (58 : UInt8).toNat = 58 from rfl, hm] at HCO
  clear hm hv ho hs hp
  go_enter Try.func9, Try.ntmps9
  go_wp2_with fail
  refine (cut_one 35 l hl _).mono ?_
  rintro e w1 ⟨rfl, n1, rfl⟩
  have HB := below_drewN (w.alloc (.cells #[.bool false, .string ⟨#[]⟩, .string ⟨#[]⟩] 24)) n1
  generalize (w.alloc (.cells #[.bool false, .string ⟨#[]⟩, .string ⟨#[]⟩] 24)).drewN n1 = w1 at HB ⊢
  go_wp2_with fail
  refine (HVA.out _).mono ?_
  rintro e w2 ⟨rfl, rfl⟩
  go_wp2_with fail
  refine (range_any 0 31 (by omega) (by omega) _).mono ?_
  rintro e w2 ⟨rfl, B2⟩
  replace HB := bthen HB B2
  clear B2
  go_wp2_with fail
  have hb0 : w2.heap.size < (w2.alloc (.cells #[.int .u8 127] 5)).heap.size := by simp
  have hbt : BAt (w2.alloc (.cells #[.int .u8 127] 5)) w2.heap.size [127] := bat1 w2 127
  have B3 : Below w2.heap.size w2 (w2.alloc (.cells #[.int .u8 127] 5)) := (Below.refl _ _).alloc (Nat.le_refl _) _
  generalize w2.alloc (.cells #[.int .u8 127] 5) = w3 at hb0 hbt B3 ⊢
  refine (of_any w2.heap.size _ [127] (by simp) _ hb0 hbt).mono ?_
  rintro e w4 ⟨rfl, B4⟩
  replace HB := bthen (bthen HB B3) B4
  clear B3 B4 hb0 hbt
  go_wp2_with fail
  refine (or_any _ _ (W4.ok_range _ _) (W4.ok_ofList _) _).mono ?_
  rintro e w5 ⟨rfl, B5⟩
  replace HB := bthen HB B5
  clear B5
  go_wp2_with fail
  refine (not_any _ (W4.ok_or (W4.ok_range _ _) (W4.ok_ofList _)) _).mono ?_
  rw [nc_eq]
  rintro e w6 ⟨rfl, B6⟩
  replace HB := bthen HB B6
  clear B6
  go_wp2_with fail
  refine (HOF.out _).mono ?_
  rintro e w7 ⟨rfl, B7⟩
  replace HB := bthen HB B7
  clear B7
  go_wp2_with fail
  refine (HSC.out _).mono ?_
  rintro e w8 ⟨rfl, B8⟩
  replace HB := bthen HB B8
  clear B8
  go_wp2_with fail
  refine (HC2.out _).mono ?_
  rintro e w9 ⟨rfl, n9, rfl⟩
  replace HB := bthen HB (below_drewN _ n9)
  generalize w8.drewN n9 = w9 at HB ⊢
  go_wp2_with fail
  refine (HP.out _).mono ?_
  rintro e w10 ⟨rfl, rfl⟩
  go_wp2_with fail
  refine (HC3.out _).mono ?_
  rintro e w11 ⟨rfl, n10, rfl⟩
  replace HB := bthen HB (below_drewN _ n10)
  generalize w10.drewN n10 = w11 at HB ⊢
  go_wp2_with fail
  refine (HCO.out _).mono ?_
  rintro e w12 ⟨rfl, rfl⟩
  have KR := blk_below (blk_new w (.cells #[.bool false, .string ⟨#[]⟩, .string ⟨#[]⟩] 24)) HB
  have HB1 : Below w.heap.size w w12 := ((Below.refl _ _).alloc (Nat.le_refl _) _).trans (HB.mono (by simp))
  have rc0 := blk_cell KR 0
  have rf0 := blk_frozen KR 0
  have rc1 := blk_cell KR 1
  have rf1 := blk_frozen KR 1
  have rc2 := blk_cell KR 2
  have rf2 := blk_frozen KR 2
  simp at rc0 rc1 rc2
  clear KR HB
  go_wp2_with fail
  exact bodyPost_ret (v := res none) (by first | (simp [results, Try.results9, go_sem, res, rc0, rc1, rc2]; done) | (simp [results, Try.results9, go_sem, res, rc0, rc1, rc2]; rfl)) rfl ⟨rfl, by (repeat (first | exact Below.refl _ _ | assumption | refine Below.drew ?_ | refine Below.alloc ?_ (by first | exact Nat.le_refl _ | (simp; done) | (simp; omega) | omega) _ | refine Below.setCell ?_ (by first | exact Nat.le_refl _ | (simp; done) | (simp; omega) | omega) _))⟩
set_option maxHeartbeats 3200000 in
theorem parse_n_no (l : Pc.B) (hl : l.length ≤ 1000000) (hv : Pc.valid (Gu.aft 35 l) = true) (ho : ((Gu.bef 35 l).all fun c => !Gu.ctl c.toNat) = true) (hs : Gu.sch 0 (Gu.bef 35 l) = (-1, true)) (hp : Lib.hasPrefix (Gu.bef 63 (Gu.bef 35 l)) [47] = false) (hm : Gu.mem (Gu.bef 47 (Gu.bef 63 (Gu.bef 35 l))) 58 = false) (w : World) : Calls Try.prog 9 #[.string ⟨l.toArray⟩] w fun e w' => e = .returned (res (Gu.rooted (Gu.bef 63 (Gu.bef 35 l)) false)) ∧ Below w.heap.size w w' := by
  have HVA := Lib.hid (fun w => valid_any (Gu.aft 35 l) (by have := aft_le l hl 35; omega) w)
  rw [hv] at HVA
  have HOF := Lib.hid (gof_any (Gu.bef 35 l) (bef_le l hl 35) Gu.NC Gu.ok_NC)
  rw [all_NC, ho] at HOF
  have HSC := Lib.hid (scheme_any (Gu.bef 35 l) (bef_le l hl 35))
  rw [hs] at HSC
  have hD : (Gu.bef 35 l).length ≤ 1000000 := by have := bef_le l hl 35; omega
  have hR : (Gu.bef 63 (Gu.bef 35 l)).length ≤ 1000000 := bef_le _ hD 63
  have HC2 := Lib.hid (fun w => cut_one 63 (Gu.bef 35 l) hD w)
  have HP := Lib.hid (fun w => Try.strings_HasPrefix ⟨(Gu.bef 63 (Gu.bef 35 l)).toArray⟩ ⟨#[47]⟩ w)
  rw [show (ByteArray.mk (Gu.bef 63 (Gu.bef 35 l)).toArray).data.toList = (Gu.bef 63 (Gu.bef 35 l)) from rfl, show (ByteArray.mk #[47]).data.toList = [47] from rfl, hp] at HP
  have hF : (Gu.bef 47 (Gu.bef 63 (Gu.bef 35 l))).length ≤ 1000000 := bef_le _ hR 47
  have HC3 := Lib.hid (fun w => cut_one 47 (Gu.bef 63 (Gu.bef 35 l)) hR w)
  have HCO := Lib.hid (fun w => Try.strings_Contains_one ⟨(Gu.bef 47 (Gu.bef 63 (Gu.bef 35 l))).toArray⟩ 58 w)
  rw [show (ByteArray.mk (Gu.bef 47 (Gu.bef 63 (Gu.bef 35 l))).toArray).data.toList = (Gu.bef 47 (Gu.bef 63 (Gu.bef 35 l))) from rfl, idx_mem, show (58 : UInt8).toNat = 58 from rfl, hm] at HCO
  have HRO := Lib.hid (fun w => rooted_any (Gu.bef 63 (Gu.bef 35 l)) hR false w)
  clear hm hv ho hs hp
  generalize Gu.rooted (Gu.bef 63 (Gu.bef 35 l)) false = o at HRO ⊢
  go_enter Try.func9, Try.ntmps9
  go_wp2_with fail
  refine (cut_one 35 l hl _).mono ?_
  rintro e w1 ⟨rfl, n1, rfl⟩
  have HB := below_drewN (w.alloc (.cells #[.bool false, .string ⟨#[]⟩, .string ⟨#[]⟩] 24)) n1
  generalize (w.alloc (.cells #[.bool false, .string ⟨#[]⟩, .string ⟨#[]⟩] 24)).drewN n1 = w1 at HB ⊢
  go_wp2_with fail
  refine (HVA.out _).mono ?_
  rintro e w2 ⟨rfl, rfl⟩
  go_wp2_with fail
  refine (range_any 0 31 (by omega) (by omega) _).mono ?_
  rintro e w2 ⟨rfl, B2⟩
  replace HB := bthen HB B2
  clear B2
  go_wp2_with fail
  have hb0 : w2.heap.size < (w2.alloc (.cells #[.int .u8 127] 5)).heap.size := by simp
  have hbt : BAt (w2.alloc (.cells #[.int .u8 127] 5)) w2.heap.size [127] := bat1 w2 127
  have B3 : Below w2.heap.size w2 (w2.alloc (.cells #[.int .u8 127] 5)) := (Below.refl _ _).alloc (Nat.le_refl _) _
  generalize w2.alloc (.cells #[.int .u8 127] 5) = w3 at hb0 hbt B3 ⊢
  refine (of_any w2.heap.size _ [127] (by simp) _ hb0 hbt).mono ?_
  rintro e w4 ⟨rfl, B4⟩
  replace HB := bthen (bthen HB B3) B4
  clear B3 B4 hb0 hbt
  go_wp2_with fail
  refine (or_any _ _ (W4.ok_range _ _) (W4.ok_ofList _) _).mono ?_
  rintro e w5 ⟨rfl, B5⟩
  replace HB := bthen HB B5
  clear B5
  go_wp2_with fail
  refine (not_any _ (W4.ok_or (W4.ok_range _ _) (W4.ok_ofList _)) _).mono ?_
  rw [nc_eq]
  rintro e w6 ⟨rfl, B6⟩
  replace HB := bthen HB B6
  clear B6
  go_wp2_with fail
  refine (HOF.out _).mono ?_
  rintro e w7 ⟨rfl, B7⟩
  replace HB := bthen HB B7
  clear B7
  go_wp2_with fail
  refine (HSC.out _).mono ?_
  rintro e w8 ⟨rfl, B8⟩
  replace HB := bthen HB B8
  clear B8
  go_wp2_with fail
  refine (HC2.out _).mono ?_
  rintro e w9 ⟨rfl, n9, rfl⟩
  replace HB := bthen HB (below_drewN _ n9)
  generalize w8.drewN n9 = w9 at HB ⊢
  go_wp2_with fail
  refine (HP.out _).mono ?_
  rintro e w10 ⟨rfl, rfl⟩
  go_wp2_with fail
  refine (HC3.out _).mono ?_
  rintro e w11 ⟨rfl, n10, rfl⟩
  replace HB := bthen HB (below_drewN _ n10)
  generalize w10.drewN n10 = w11 at HB ⊢
  go_wp2_with fail
  refine (HCO.out _).mono ?_
  rintro e w12 ⟨rfl, rfl⟩
  go_wp2_with fail
  refine (HRO.out _).mono ?_
  rintro e w13 ⟨rfl, B12⟩
  replace HB := bthen HB B12
  clear B12
  have KR := blk_below (blk_new w (.cells #[.bool false, .string ⟨#[]⟩, .string ⟨#[]⟩] 24)) HB
  have HB1 : Below w.heap.size w w13 := ((Below.refl _ _).alloc (Nat.le_refl _) _).trans (HB.mono (by simp))
  have rc0 := blk_cell KR 0
  have rf0 := blk_frozen KR 0
  have rc1 := blk_cell KR 1
  have rf1 := blk_frozen KR 1
  have rc2 := blk_cell KR 2
  have rf2 := blk_frozen KR 2
  simp at rc0 rc1 rc2
  clear KR HB
  rcases o with _ | ⟨h, p⟩
  · unfold res
    go_wp2_with fail
    exact bodyPost_ret (v := res none) (by first | (simp [results, Try.results9, go_sem, res, rc0, rc1, rc2]; done) | (simp [results, Try.results9, go_sem, res, rc0, rc1, rc2]; rfl)) rfl ⟨rfl, by (repeat (first | exact Below.refl _ _ | assumption | refine Below.drew ?_ | refine Below.alloc ?_ (by first | exact Nat.le_refl _ | (simp; done) | (simp; omega) | omega) _ | refine Below.setCell ?_ (by first | exact Nat.le_refl _ | (simp; done) | (simp; omega) | omega) _))⟩
  · unfold res
    go_wp2_with fail
    exact bodyPost_ret (v := res (some (h, p))) (by first | (simp [results, Try.results9, go_sem, res, rc0, rc1, rc2]; done) | (simp [results, Try.results9, go_sem, res, rc0, rc1, rc2]; rfl)) rfl ⟨rfl, by (repeat (first | exact Below.refl _ _ | assumption | refine Below.drew ?_ | refine Below.alloc ?_ (by first | exact Nat.le_refl _ | (simp; done) | (simp; omega) | omega) _ | refine Below.setCell ?_ (by first | exact Nat.le_refl _ | (simp; done) | (simp; omega) | omega) _))⟩

theorem parse_any (l : Pc.B) (hl : l.length ≤ 1000000) (w : World) : Calls Try.prog 9 #[.string ⟨l.toArray⟩] w fun e w' => e = .returned (res (Gu.parse l)) ∧ Below w.heap.size w w' := by
  have hP : Gu.parse l = if !Pc.valid (Gu.aft 35 l) || !((Gu.bef 35 l).all fun c => !Gu.ctl c.toNat) then none
    else if !(Gu.sch 0 (Gu.bef 35 l)).2 then none
    else if !Lib.hasPrefix (Gu.rest l) [47] then
      if 0 ≤ (Gu.sch 0 (Gu.bef 35 l)).1 then some ([], [])
      else if Gu.mem (Gu.bef 47 (Gu.rest l)) 58 then none
      else Gu.rooted (Gu.rest l) false
    else Gu.rooted (Gu.rest l) (decide (0 ≤ (Gu.sch 0 (Gu.bef 35 l)).1)) := rfl
  cases hv : Pc.valid (Gu.aft 35 l)
  · have e : Gu.parse l = none := by rw [hP, hv]; rfl
    rw [e]; exact parse_1 l hl hv w
  · cases ho : (Gu.bef 35 l).all fun c => !Gu.ctl c.toNat
    · have e : Gu.parse l = none := by rw [hP, hv, ho]; rfl
      rw [e]; exact parse_2 l hl hv ho w
    · obtain ⟨n, b, hs⟩ : ∃ n b, Gu.sch 0 (Gu.bef 35 l) = (n, b) := ⟨_, _, rfl⟩
      have hbd := Gu.sch_bd (Gu.bef 35 l)
      rw [hv, ho, hs] at hP
      rw [hs] at hbd
      cases b
      · rw [hP]; exact parse_3 l hl hv ho n hs w
      · by_cases hn : n = -1
        · subst hn
          have hr : Gu.rest l = Gu.bef 63 (Gu.bef 35 l) := by unfold Gu.rest; rw [hs]; rfl
          rw [hr] at hP
          cases hp : Lib.hasPrefix (Gu.bef 63 (Gu.bef 35 l)) [47]
          · rw [hp] at hP
            cases hm : Gu.mem (Gu.bef 47 (Gu.bef 63 (Gu.bef 35 l))) 58
            · rw [hm] at hP
              rw [hP]; exact parse_n_no l hl hv ho hs hp hm w
            · rw [hm] at hP
              rw [hP]; exact parse_n_mem l hl hv ho hs hp hm w
          · rw [hp] at hP
            rw [hP]; exact parse_n_pre l hl hv ho hs hp w
        · obtain ⟨k, rfl⟩ : ∃ k : Nat, n = k := ⟨n.toNat, by omega⟩
          have hr : Gu.rest l = Gu.bef 63 ((Gu.bef 35 l).drop (k + 1)) := by
            unfold Gu.rest; rw [hs]
            show Gu.bef 63 ((Gu.bef 35 l).drop ((k : Int) + 1).toNat) = _
            rw [show ((k : Int) + 1).toNat = k + 1 by omega]
          rw [hr] at hP
          have hk0 : (0 : Int) ≤ (k : Int) := by omega
          cases hp : Lib.hasPrefix (Gu.bef 63 ((Gu.bef 35 l).drop (k + 1))) [47]
          · rw [hp] at hP
            have e : Gu.parse l = some ([], []) := by rw [hP]; simp [hk0]
            rw [e]; exact parse_p_no l hl hv ho k hs (by omega) hp w
          · rw [hp] at hP
            have e : Gu.parse l = Gu.rooted (Gu.bef 63 ((Gu.bef 35 l).drop (k + 1))) true := by rw [hP]; simp [hk0]
            rw [e]; exact parse_p_pre l hl hv ho k hs (by omega) hp w
end Go.Proofs.Ytpccfagbmbbpkaa
