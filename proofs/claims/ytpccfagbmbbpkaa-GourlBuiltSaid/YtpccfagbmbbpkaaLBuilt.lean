/-
  GourlBuilt: what is put together of userinfo, host, port, path, query and fragment is told again.
-/
import Derived.Test.YtpccfagbmbbpkaaBP
import Derived.Test.YtpccfagbmbbpkaaBPl
import Derived.Test.YtpccfagbmbbpkaaEnc
import Derived.Outline
namespace Go.Proofs.Ytpccfagbmbbpkaa
open Go.RowKit Go.Proofs.YtpccfagbmbbpkaaW.PrintWords

def onlyP (l : Pc.B) : Pc.B := l.filter fun c => Gu.PL.has c.toNat
theorem onlyP_p (l : Pc.B) : AllP (onlyP l) := by
  intro d hd
  unfold onlyP at hd
  rw [List.mem_filter, Gu.has_PL _ d.toNat_lt] at hd
  exact hd.2
theorem onlyP_len (l : Pc.B) : (onlyP l).length ≤ l.length := List.length_filter_le _ _
def DgS : W4 := W4.range 48 57
theorem ok_DgS : DgS.Ok := W4.ok_range _ _
def onlyD (l : Pc.B) : Pc.B := l.filter fun c => DgS.has c.toNat
theorem onlyD_p (l : Pc.B) : AllD (onlyD l) := by
  intro d hd
  unfold onlyD DgS at hd
  rw [List.mem_filter, W4.has_range _ _ _ (by omega) d.toNat_lt] at hd
  exact hd.2
theorem onlyD_len (l : Pc.B) : (onlyD l).length ≤ l.length := List.length_filter_le _ _
def SB : W4 := Gu.PL.or (W4.ofList [47, 58, 64])
theorem ok_SB : SB.Ok := W4.ok_or Gu.ok_PL (W4.ok_ofList _)
theorem has_SB (c : Nat) (h : c < 256) : SB.has c = (Gu.pln c || Gu.mem [47, 58, 64] c) := by
  unfold SB
  rw [W4.has_or, Gu.has_PL c h, W4.has_ofList _ c h]; rfl
theorem encE (l : Pc.B) : Pc.valid (Pc.enc SB.has l) = true ∧ (∀ d ∈ Pc.enc SB.has l, d ≠ 63 ∧ d ≠ 35 ∧ Gu.ctl d.toNat = false) ∧ (Pc.enc SB.has l).length ≤ 3 * l.length := by
  have h := Pc.enc_laws SB.has l
  refine ⟨h.1, ?_, Pc.enc_len _ _⟩
  intro d hd
  refine byte_e d ?_
  rcases h.2.2.2.2 d hd with h | h | h
  · rw [has_SB _ d.toNat_lt, Bool.or_eq_true] at h
    rcases h with h | h
    · exact Or.inl h
    · exact Or.inr (Or.inl h)
  · exact Or.inr (Or.inr (Or.inl h))
  · exact Or.inr (Or.inr (Or.inr h))
theorem bat3 (w : World) (c d f : UInt8) : BAt (w.alloc (.cells #[.int .u8 (c.toNat : Int), .int .u8 (d.toNat : Int), .int .u8 (f.toNat : Int)] 5)) w.heap.size [c, d, f] := by
  intro j hj
  have hj0 : j = 0 ∨ j = 1 ∨ j = 2 := by simp at hj; omega
  rcases hj0 with rfl | rfl | rfl
  · exact blk_cell (blk_new w (.cells #[.int .u8 (c.toNat : Int), .int .u8 (d.toNat : Int), .int .u8 (f.toNat : Int)] 5)) 0
  · exact blk_cell (blk_new w (.cells #[.int .u8 (c.toNat : Int), .int .u8 (d.toNat : Int), .int .u8 (f.toNat : Int)] 5)) 1
  · exact blk_cell (blk_new w (.cells #[.int .u8 (c.toNat : Int), .int .u8 (d.toNat : Int), .int .u8 (f.toNat : Int)] 5)) 2
set_option maxRecDepth 100000 in
set_option maxHeartbeats 6400000 in
theorem built_yes (i h p a q b : Pc.B) (hi : i.length ≤ 60) (hh : h.length ≤ 60) (hp : p.length ≤ 60) (ha : a.length ≤ 60) (hq : q.length ≤ 60) (hb : b.length ≤ 60) (w : World) : Calls Try.prog 7 #[.string ⟨i.toArray⟩, .string ⟨h.toArray⟩, .string ⟨p.toArray⟩, .string ⟨a.toArray⟩, .string ⟨q.toArray⟩, .string ⟨b.toArray⟩] w fun e w' => e = .returned (.bool true) ∧ Below w.heap.size w w' := by
  have HU := Lib.hid (fun w => only_any i Gu.PL Gu.ok_PL (by omega) w)
  have HH := Lib.hid (fun w => only_any h Gu.PL Gu.ok_PL (by omega) w)
  have HD := Lib.hid (fun w => only_any p DgS ok_DgS (by omega) w)
  have HQ := Lib.hid (fun w => only_any q NQ ok_NQ (by omega) w)
  have HE1 := Lib.hid (fun w => encode_any a SB ok_SB (by omega) w)
  have HE2 := Lib.hid (fun w => encode_any b Gu.PL Gu.ok_PL (by omega) w)
  have e1 : Hid ((i.filter fun c => Gu.PL.has c.toNat) = onlyP i) := Lib.hid rfl
  have e2 : Hid ((h.filter fun c => Gu.PL.has c.toNat) = onlyP h) := Lib.hid rfl
  have e3 : Hid ((p.filter fun c => DgS.has c.toNat) = onlyD p) := Lib.hid rfl
  have e4 : Hid ((q.filter fun c => NQ.has c.toNat) = onlyQ q) := Lib.hid rfl
  rw [e1.out] at HU
  rw [e2.out] at HH
  rw [e3.out] at HD
  rw [e4.out] at HQ
  clear e1 e2 e3 e4
  have hE := encE a
  have lU := onlyP_len i
  have lH := onlyP_len h
  have lD := onlyD_len p
  have lQ := onlyQ_len q
  have lB := Pc.enc_len Gu.PL.has b
  have key := built_eq (b := Pc.enc Gu.PL.has b) (onlyP_p i) (onlyP_p h) (onlyD_p p) hE.1 hE.2.1 (onlyQ_ok q) (Pc.enc_laws Gu.PL.has b).1
  replace hE := hE.2.2
  generalize onlyP i = U at HU lU key
  generalize onlyP h = H at HH lH key
  generalize onlyD p = D at HD lD key
  generalize onlyQ q = Q at HQ lQ key
  generalize Pc.enc SB.has a = E at HE1 hE key
  generalize Pc.enc Gu.PL.has b = B at HE2 lB key
  unfold Built at key
  have HP1 := Lib.hid (fun w => parse_k (47 :: 47 :: (U ++ 64 :: (H ++ 58 :: (D ++ 47 :: (E ++ 63 :: (Q ++ 35 :: B)))))) (by simp; omega) _ key.1 w)
  have HP2 := Lib.hid (fun w => parse_k (120 :: 58 :: 47 :: 47 :: (U ++ 64 :: (H ++ 58 :: (D ++ 47 :: (E ++ 63 :: (Q ++ 35 :: B)))))) (by simp; omega) _ key.2 w)
  unfold res at HP1 HP2
  have HE : ∀ w, (binOp .eql 24 (.agg #[.bool true, .string ⟨H.toArray⟩, .string ⟨(47 :: E).toArray⟩]) (.agg #[.bool true, .string ⟨H.toArray⟩, .string ⟨(47 :: E).toArray⟩])).run Try.prog w = .ok (.bool true) w := fun w => by
    have := eq_res (some (H, 47 :: E)) (some (H, 47 :: E)) w
    rw [decide_eq_true rfl] at this
    exact this
  have HG := fun op x y w => eqg_agg op x y #[.bool true, .string ⟨H.toArray⟩, .string ⟨(47 :: E).toArray⟩] #[.bool true, .string ⟨H.toArray⟩, .string ⟨(47 :: E).toArray⟩] w
  clear key
  go_enter Try.func7, Try.ntmps7
  have HB : Below w.heap.size w w := Below.refl _ _
  go_wp2_with fail
  refine (lplain_any _).mono ?_
  rintro e w1 ⟨rfl, B1⟩
  replace HB := bthen HB B1
  clear B1
  go_wp2_with fail
  refine (HH.out _).mono ?_
  rintro e w2 ⟨rfl, B2⟩
  replace HB := bthen HB B2
  clear B2
  go_wp2_with fail
  refine (lplain_any _).mono ?_
  rintro e w3 ⟨rfl, B3⟩
  replace HB := bthen HB B3
  clear B3
  go_wp2_with fail
  have hb0 : w3.heap.size < (w3.alloc (.cells #[.int .u8 47, .int .u8 58, .int .u8 64] 5)).heap.size := by simp
  have hbt : BAt (w3.alloc (.cells #[.int .u8 47, .int .u8 58, .int .u8 64] 5)) w3.heap.size [47, 58, 64] := bat3 w3 47 58 64
  replace HB : Below w.heap.size w (w3.alloc (.cells #[.int .u8 47, .int .u8 58, .int .u8 64] 5)) := bthen HB ((Below.refl _ _).alloc (Nat.le_refl _) _)
  generalize w3.alloc (.cells #[.int .u8 47, .int .u8 58, .int .u8 64] 5) = w4 at hb0 hbt HB ⊢
  refine (of_any w3.heap.size _ [47, 58, 64] (by simp) _ hb0 hbt).mono ?_
  rintro e w5 ⟨rfl, B5⟩
  replace HB := bthen HB B5
  clear B5 hb0 hbt
  go_wp2_with fail
  refine (or_any _ _ Gu.ok_PL (W4.ok_ofList _) _).mono ?_
  rw [show Gu.PL.or (W4.ofList [47, 58, 64]) = SB from rfl]
  rintro e w6 ⟨rfl, B6⟩
  replace HB := bthen HB B6
  clear B6
  go_wp2_with fail
  refine (HE1.out _).mono ?_
  rintro e w7 ⟨rfl, B7⟩
  replace HB := bthen HB B7
  clear B7
  go_wp2_with fail
  refine (range_any 0 31 (by omega) (by omega) _).mono ?_
  rintro e w8 ⟨rfl, B8⟩
  replace HB := bthen HB B8
  clear B8
  go_wp2_with fail
  have hb0 : w8.heap.size < (w8.alloc (.cells #[.int .u8 127, .int .u8 35] 5)).heap.size := by simp
  have hbt : BAt (w8.alloc (.cells #[.int .u8 127, .int .u8 35] 5)) w8.heap.size [127, 35] := bat2 w8 127 35
  replace HB : Below w.heap.size w (w8.alloc (.cells #[.int .u8 127, .int .u8 35] 5)) := bthen HB ((Below.refl _ _).alloc (Nat.le_refl _) _)
  generalize w8.alloc (.cells #[.int .u8 127, .int .u8 35] 5) = w9 at hb0 hbt HB ⊢
  refine (of_any w8.heap.size _ [127, 35] (by simp) _ hb0 hbt).mono ?_
  rintro e w10 ⟨rfl, B10⟩
  replace HB := bthen HB B10
  clear B10 hb0 hbt
  go_wp2_with fail
  refine (or_any _ _ (W4.ok_range _ _) (W4.ok_ofList _) _).mono ?_
  rintro e w11 ⟨rfl, B11⟩
  replace HB := bthen HB B11
  clear B11
  go_wp2_with fail
  refine (not_any _ (W4.ok_or (W4.ok_range _ _) (W4.ok_ofList _)) _).mono ?_
  rw [show ((W4.range 0 31).or (W4.ofList [127, 35])).not = NQ from rfl]
  rintro e w12 ⟨rfl, B12⟩
  replace HB := bthen HB B12
  clear B12
  go_wp2_with fail
  refine (HQ.out _).mono ?_
  rintro e w13 ⟨rfl, B13⟩
  replace HB := bthen HB B13
  clear B13
  go_wp2_with fail
  refine (lplain_any _).mono ?_
  rintro e w14 ⟨rfl, B14⟩
  replace HB := bthen HB B14
  clear B14
  go_wp2_with fail
  refine (HU.out _).mono ?_
  rintro e w15 ⟨rfl, B15⟩
  replace HB := bthen HB B15
  clear B15
  go_wp2_with fail
  refine (range_any 48 57 (by omega) (by omega) _).mono ?_
  rw [show W4.range 48 57 = DgS from rfl]
  rintro e w16 ⟨rfl, B16⟩
  replace HB := bthen HB B16
  clear B16
  go_wp2_with fail
  refine (HD.out _).mono ?_
  rintro e w17 ⟨rfl, B17⟩
  replace HB := bthen HB B17
  clear B17
  go_wp2_with fail
  refine (lplain_any _).mono ?_
  rintro e w18 ⟨rfl, B18⟩
  replace HB := bthen HB B18
  clear B18
  go_wp2_with fail
  refine (HE2.out _).mono ?_
  rintro e w19 ⟨rfl, B19⟩
  replace HB := bthen HB B19
  clear B19
  go_wp2_with fail
  refine (HP1.out _).mono ?_
  rintro e w20 ⟨rfl, B20⟩
  replace HB := bthen HB B20
  clear B20
  go_wp2_with fail
  refine (HP2.out _).mono ?_
  rintro e w21 ⟨rfl, B21⟩
  replace HB := bthen HB B21
  clear B21
  go_wp2_with fail
  refine (gawake_any _).mono ?_
  rintro e w22 ⟨rfl, B22⟩
  replace HB := bthen HB B22
  clear B22
  go_wp2_with fail
  go_ret
  exact ⟨rfl, HB⟩
set_option maxHeartbeats 1600000 in
theorem built_list (i h p a q b : Pc.B) (hi : i.length ≤ 9223372036854775807) (hh : h.length ≤ 9223372036854775807) (hp : p.length ≤ 9223372036854775807) (ha : a.length ≤ 9223372036854775807) (hq : q.length ≤ 9223372036854775807) (hb : b.length ≤ 9223372036854775807) (w : World) : Calls Try.prog 7 #[.string ⟨i.toArray⟩, .string ⟨h.toArray⟩, .string ⟨p.toArray⟩, .string ⟨a.toArray⟩, .string ⟨q.toArray⟩, .string ⟨b.toArray⟩] w fun e w' => e = .returned (.bool true) ∧ Below w.heap.size w w' := by
  by_cases h0 : 60 < i.length
  · go_enter Try.func7, Try.ntmps7
    go_wp2_with fail
    refine (gawake_any _).mono ?_
    rintro e w1 ⟨rfl, B1⟩
    go_wp2_with fail
    go_ret
    exact ⟨rfl, B1⟩
  by_cases h1 : 60 < h.length
  · go_enter Try.func7, Try.ntmps7
    go_wp2_with fail
    refine (gawake_any _).mono ?_
    rintro e w1 ⟨rfl, B1⟩
    go_wp2_with fail
    go_ret
    exact ⟨rfl, B1⟩
  by_cases h2 : 60 < p.length
  · go_enter Try.func7, Try.ntmps7
    go_wp2_with fail
    refine (gawake_any _).mono ?_
    rintro e w1 ⟨rfl, B1⟩
    go_wp2_with fail
    go_ret
    exact ⟨rfl, B1⟩
  by_cases h3 : 60 < a.length
  · go_enter Try.func7, Try.ntmps7
    go_wp2_with fail
    refine (gawake_any _).mono ?_
    rintro e w1 ⟨rfl, B1⟩
    go_wp2_with fail
    go_ret
    exact ⟨rfl, B1⟩
  by_cases h4 : 60 < q.length
  · go_enter Try.func7, Try.ntmps7
    go_wp2_with fail
    refine (gawake_any _).mono ?_
    rintro e w1 ⟨rfl, B1⟩
    go_wp2_with fail
    go_ret
    exact ⟨rfl, B1⟩
  by_cases h5 : 60 < b.length
  · go_enter Try.func7, Try.ntmps7
    go_wp2_with fail
    refine (gawake_any _).mono ?_
    rintro e w1 ⟨rfl, B1⟩
    go_wp2_with fail
    go_ret
    exact ⟨rfl, B1⟩
  exact built_yes i h p a q b (by omega) (by omega) (by omega) (by omega) (by omega) (by omega) w
theorem built_any (i : ByteArray) (hi : i.size ≤ maxLen) (h : ByteArray) (hh : h.size ≤ maxLen) (p : ByteArray) (hp : p.size ≤ maxLen) (a : ByteArray) (ha : a.size ≤ maxLen) (q : ByteArray) (hq : q.size ≤ maxLen) (b : ByteArray) (hb : b.size ≤ maxLen) (w : World) : Calls Try.prog 7 #[.string i, .string h, .string p, .string a, .string q, .string b] w fun e w' => e = .returned (.bool true) ∧ Below w.heap.size w w' := by
  have ki : i.data.toList.length ≤ 9223372036854775807 := by rw [data_length]; exact hi
  have kh : h.data.toList.length ≤ 9223372036854775807 := by rw [data_length]; exact hh
  have kp : p.data.toList.length ≤ 9223372036854775807 := by rw [data_length]; exact hp
  have ka : a.data.toList.length ≤ 9223372036854775807 := by rw [data_length]; exact ha
  have kq : q.data.toList.length ≤ 9223372036854775807 := by rw [data_length]; exact hq
  have kb : b.data.toList.length ≤ 9223372036854775807 := by rw [data_length]; exact hb
  rw [str_eq i, str_eq h, str_eq p, str_eq a, str_eq q, str_eq b]
  exact built_list _ _ _ _ _ _ ki kh kp ka kq kb w
end Go.Proofs.Ytpccfagbmbbpkaa
