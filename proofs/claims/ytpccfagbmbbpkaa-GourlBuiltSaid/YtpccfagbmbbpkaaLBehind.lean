/-
  GourlBehind: what stands behind a ?, if it may stand there, changes nothing: the call returns true.
-/
import Derived.Test.YtpccfagbmbbpkaaOnly
import Derived.Outline
namespace Go.Proofs.Ytpccfagbmbbpkaa
open Go.RowKit Go.Proofs.YtpccfagbmbbpkaaW.PrintWords

/-! ### plain -/
theorem bef_none {c : UInt8} {l : Pc.B} (h : ∀ d ∈ l, d ≠ c) : Gu.bef c l = l := by
  induction l with
  | nil => rfl
  | cons d t ih =>
    have hd : (d != c) = true := by simpa using h d (by simp)
    have := ih (fun x hx => h x (by simp [hx]))
    unfold Gu.bef at this ⊢
    rw [List.takeWhile_cons, hd, if_pos rfl, this]
theorem aft_none {c : UInt8} {l : Pc.B} (h : ∀ d ∈ l, d ≠ c) : Gu.aft c l = [] := by
  induction l with
  | nil => rfl
  | cons d t ih =>
    have hd : (d != c) = true := by simpa using h d (by simp)
    have := ih (fun x hx => h x (by simp [hx]))
    unfold Gu.aft at this ⊢
    rw [List.dropWhile_cons, hd, if_pos rfl, this]
theorem bef_app {c : UInt8} {l m : Pc.B} (h : ∀ d ∈ l, d ≠ c) : Gu.bef c (l ++ c :: m) = l := by
  induction l with
  | nil => simp [Gu.bef]
  | cons d t ih =>
    have hd : (d != c) = true := by simpa using h d (by simp)
    have := ih (fun x hx => h x (by simp [hx]))
    unfold Gu.bef at this ⊢
    rw [List.cons_append, List.takeWhile_cons, hd, if_pos rfl, this]
theorem aft_app {c : UInt8} {l m : Pc.B} (h : ∀ d ∈ l, d ≠ c) : Gu.aft c (l ++ c :: m) = m := by
  induction l with
  | nil => simp [Gu.aft]
  | cons d t ih =>
    have hd : (d != c) = true := by simpa using h d (by simp)
    have := ih (fun x hx => h x (by simp [hx]))
    unfold Gu.aft at this ⊢
    rw [List.cons_append, List.dropWhile_cons, hd, if_pos rfl, this]
theorem sch_app (l m : Pc.B) : ∀ i, Gu.sch i (l ++ 63 :: m) = Gu.sch i l := by
  induction l with
  | nil => intro i; rw [List.nil_append, Gu.sch]; rfl
  | cons c t ih => intro i; rw [List.cons_append, Gu.sch, Gu.sch, ih]
theorem parse_of {l l' : Pc.B} (h1 : Pc.valid (Gu.aft 35 l) = Pc.valid (Gu.aft 35 l')) (h2 : ((Gu.bef 35 l).all fun c => !Gu.ctl c.toNat) = ((Gu.bef 35 l').all fun c => !Gu.ctl c.toNat)) (h3 : Gu.sch 0 (Gu.bef 35 l) = Gu.sch 0 (Gu.bef 35 l')) (h4 : Gu.rest l = Gu.rest l') : Gu.parse l = Gu.parse l' := by
  unfold Gu.parse
  rw [h1, h2, h3, h4]
theorem behind_eq {l q : Pc.B} (hl : ∀ d ∈ l, d ≠ 63 ∧ d ≠ 35) (hq : ∀ d ∈ q, d ≠ 35 ∧ Gu.ctl d.toNat = false) (e : Pc.B) (he : e = [] ∨ e = [35]) : Gu.parse (l ++ [63] ++ q ++ e) = Gu.parse l := by
  have hb0 : Gu.bef 35 l = l := bef_none fun d hd => (hl d hd).2
  have ha0 : Gu.aft 35 l = [] := aft_none fun d hd => (hl d hd).2
  have hno : ∀ d ∈ l ++ 63 :: q, d ≠ 35 := by
    intro d hd
    simp only [List.mem_append, List.mem_cons] at hd
    rcases hd with hd | rfl | hd
    · exact (hl d hd).2
    · decide
    · exact (hq d hd).1
  have hbody : Gu.bef 35 (l ++ [63] ++ q ++ e) = l ++ 63 :: q ∧ Gu.aft 35 (l ++ [63] ++ q ++ e) = [] := by
    have e1 : l ++ [63] ++ q = l ++ 63 :: q := by simp
    rw [e1]
    rcases he with rfl | rfl
    · rw [List.append_nil]; exact ⟨bef_none hno, aft_none hno⟩
    · exact ⟨bef_app hno, aft_app hno⟩
  obtain ⟨hb, ha⟩ := hbody
  refine parse_of (by rw [ha, ha0]) ?_ (by rw [hb, hb0, sch_app]) ?_
  · rw [hb, hb0, List.all_append, List.all_cons]
    have h63 : Gu.ctl (63 : UInt8).toNat = false := by decide
    have hqa : (q.all fun c => !Gu.ctl c.toNat) = true := by
      rw [List.all_eq_true]; intro d hd; rw [(hq d hd).2]; rfl
    rw [h63, hqa]; simp
  · unfold Gu.rest
    rw [hb, hb0, sch_app]
    have hbd := Gu.sch_bd l
    obtain ⟨m, hm⟩ : ∃ m : Nat, ((Gu.sch 0 l).1 + 1).toNat = m := ⟨_, rfl⟩
    have hml : m ≤ l.length := by omega
    rw [hm, List.drop_append_of_le_length hml]
    have hd : ∀ d ∈ l.drop m, d ≠ 63 := fun d hd => (hl d (List.mem_of_mem_drop hd)).1
    rw [bef_app hd, bef_none hd]

/-! ### the walk -/
theorem bat2 (w : World) (c d : UInt8) : BAt (w.alloc (.cells #[.int .u8 (c.toNat : Int), .int .u8 (d.toNat : Int)] 5)) w.heap.size [c, d] := by
  intro j hj
  have hj0 : j = 0 ∨ j = 1 := by simp at hj; omega
  rcases hj0 with rfl | rfl
  · exact blk_cell (blk_new w (.cells #[.int .u8 (c.toNat : Int), .int .u8 (d.toNat : Int)] 5)) 0
  · exact blk_cell (blk_new w (.cells #[.int .u8 (c.toNat : Int), .int .u8 (d.toNat : Int)] 5)) 1
def QH : W4 := W4.ofList [63, 35]
theorem ok_QH : QH.Ok := W4.ok_ofList _
theorem has_QH (c : Nat) (h : c < 256) : QH.has c = (decide (c = 63) || decide (c = 35)) := by
  unfold QH
  rw [W4.has_ofList _ c h, Bool.eq_iff_iff]; simp; omega
def NQ : W4 := ((W4.range 0 31).or (W4.ofList [127, 35])).not
theorem ok_NQ : NQ.Ok := W4.ok_not _
theorem has_NQ (c : Nat) (h : c < 256) : NQ.has c = (!Gu.ctl c && !decide (c = 35)) := by
  unfold NQ Gu.ctl
  rw [W4.has_not (W4.ok_or (W4.ok_range _ _) (W4.ok_ofList _)), W4.has_or, W4.has_range _ _ _ (by omega) h, W4.has_ofList _ c h, Bool.eq_iff_iff]
  simp; omega
def onlyQ (q : Pc.B) : Pc.B := q.filter fun c => NQ.has c.toNat
theorem onlyQ_ok (q : Pc.B) : ∀ d ∈ onlyQ q, d ≠ 35 ∧ Gu.ctl d.toNat = false := by
  intro d hd
  unfold onlyQ at hd
  rw [List.mem_filter, has_NQ _ d.toNat_lt] at hd
  have := hd.2
  simp at this
  exact ⟨fun e => this.2 (by rw [e]; rfl), this.1⟩
theorem onlyQ_len (q : Pc.B) : (onlyQ q).length ≤ q.length := List.length_filter_le _ _
theorem onlyH_nil {l : Pc.B} (h : (l.filter fun c => QH.has c.toNat) = []) : ∀ d ∈ l, d ≠ 63 ∧ d ≠ 35 := by
  intro d hd
  rw [List.filter_eq_nil_iff] at h
  have := h d hd
  rw [has_QH _ d.toNat_lt] at this
  simp at this
  exact ⟨fun e => this.1 (by rw [e]; rfl), fun e => this.2 (by rw [e]; rfl)⟩
set_option maxRecDepth 100000 in
set_option maxHeartbeats 3200000 in
theorem behind_yes (l q : Pc.B) (hl : l.length ≤ 100) (hq : q.length ≤ 60) (hm : (l.filter fun c => QH.has c.toNat) = []) (w : World) : Calls Try.prog 6 #[.string ⟨l.toArray⟩, .string ⟨q.toArray⟩] w fun e w' => e = .returned (.bool true) ∧ Below w.heap.size w w' := by
  have hno := onlyH_nil hm
  have hql := onlyQ_len q
  have e1 : Gu.parse (l ++ [63] ++ onlyQ q) = Gu.parse l := by have := behind_eq hno (onlyQ_ok q) [] (Or.inl rfl); rwa [List.append_nil] at this
  have e2 : Gu.parse (l ++ [63] ++ onlyQ q ++ [35]) = Gu.parse l := behind_eq hno (onlyQ_ok q) [35] (Or.inr rfl)
  have HO1 := Lib.hid (fun w => only_any l QH ok_QH (by omega) w)
  rw [hm] at HO1
  have HO2 := Lib.hid (fun w => only_any q NQ ok_NQ (by omega) w)
  have HQD : Hid ((q.filter fun c => NQ.has c.toNat) = onlyQ q) := Lib.hid rfl
  rw [HQD.out] at HO2
  generalize onlyQ q = r at e1 e2 HO2 hql
  clear HQD
  have HE : ∀ w, (binOp .eql 24 (res (Gu.parse l)) (res (Gu.parse l))).run Try.prog w = .ok (.bool true) w := fun w => by rw [eq_res, decide_eq_true rfl]
  have HG := fun op x y w => eqg_res op x y (Gu.parse l) (Gu.parse l) w
  have HP0 := Lib.hid (fun w => parse_any l (by omega) w)
  rw [show l ++ [63] ++ r = l ++ 63 :: r by simp] at e1
  rw [show l ++ [63] ++ r ++ [35] = l ++ 63 :: (r ++ [35]) by simp] at e2
  have HP1 := Lib.hid (fun w => parse_any (l ++ 63 :: r) (by simp; omega) w)
  have HP2 := Lib.hid (fun w => parse_any (l ++ 63 :: (r ++ [35])) (by simp; omega) w)
  rw [e1] at HP1
  rw [e2] at HP2
  have s1 : ¬ 9223372036854775807 < l.length + 1 := by omega
  have s2 : ¬ 9223372036854775807 < l.length + 1 + r.length := by omega
  have s3 : ¬ 9223372036854775807 < l.length + 1 + r.length + 1 := by omega
  clear e1 e2 hm hno
  generalize Gu.parse l = o at HE HG HP0 HP1 HP2
  generalize res o = v at HE HG HP0 HP1 HP2
  go_enter Try.func6, Try.ntmps6
  go_wp2_with fail
  have hb0 : w.heap.size < (w.alloc (.cells #[.int .u8 63, .int .u8 35] 5)).heap.size := by simp
  have hbt : BAt (w.alloc (.cells #[.int .u8 63, .int .u8 35] 5)) w.heap.size [63, 35] := bat2 w 63 35
  have HB : Below w.heap.size w (w.alloc (.cells #[.int .u8 63, .int .u8 35] 5)) := (Below.refl _ _).alloc (Nat.le_refl _) _
  generalize w.alloc (.cells #[.int .u8 63, .int .u8 35] 5) = w1 at hb0 hbt HB ⊢
  refine (of_any w.heap.size _ [63, 35] (by simp) _ hb0 hbt).mono ?_
  rw [show W4.ofList [63, 35] = QH from rfl]
  rintro e w2 ⟨rfl, B2⟩
  replace HB := bthen HB B2
  clear B2 hb0 hbt
  go_wp2_with fail
  refine (HO1.out _).mono ?_
  rintro e w3 ⟨rfl, B3⟩
  replace HB := bthen HB B3
  clear B3
  go_wp2_with fail
  refine (range_any 0 31 (by omega) (by omega) _).mono ?_
  rintro e w4 ⟨rfl, B4⟩
  replace HB := bthen HB B4
  clear B4
  go_wp2_with fail
  have hb0 : w4.heap.size < (w4.alloc (.cells #[.int .u8 127, .int .u8 35] 5)).heap.size := by simp
  have hbt : BAt (w4.alloc (.cells #[.int .u8 127, .int .u8 35] 5)) w4.heap.size [127, 35] := bat2 w4 127 35
  have B5 : Below w4.heap.size w4 (w4.alloc (.cells #[.int .u8 127, .int .u8 35] 5)) := (Below.refl _ _).alloc (Nat.le_refl _) _
  generalize w4.alloc (.cells #[.int .u8 127, .int .u8 35] 5) = w5 at hb0 hbt B5 ⊢
  replace HB := bthen HB B5
  refine (of_any w4.heap.size _ [127, 35] (by simp) _ hb0 hbt).mono ?_
  rintro e w6 ⟨rfl, B6⟩
  replace HB := bthen HB B6
  clear B5 B6 hb0 hbt
  go_wp2_with fail
  refine (or_any _ _ (W4.ok_range _ _) (W4.ok_ofList _) _).mono ?_
  rintro e w7 ⟨rfl, B7⟩
  replace HB := bthen HB B7
  clear B7
  go_wp2_with fail
  refine (not_any _ (W4.ok_or (W4.ok_range _ _) (W4.ok_ofList _)) _).mono ?_
  rw [show ((W4.range 0 31).or (W4.ofList [127, 35])).not = NQ from rfl]
  rintro e w8 ⟨rfl, B8⟩
  replace HB := bthen HB B8
  clear B8
  go_wp2_with fail
  refine (HO2.out _).mono ?_
  rintro e w9 ⟨rfl, B9⟩
  replace HB := bthen HB B9
  clear B9
  go_wp2_with fail
  refine (HP1.out _).mono ?_
  rintro e w10 ⟨rfl, B10⟩
  replace HB := bthen HB B10
  clear B10
  go_wp2_with fail
  refine (HP0.out _).mono ?_
  rintro e w11 ⟨rfl, B11⟩
  replace HB := bthen HB B11
  clear B11
  go_wp2_with fail
  refine (HP2.out _).mono ?_
  rintro e w12 ⟨rfl, B12⟩
  replace HB := bthen HB B12
  clear B12
  go_wp2_with fail
  refine (HP0.out _).mono ?_
  rintro e w13 ⟨rfl, B13⟩
  replace HB := bthen HB B13
  clear B13
  go_wp2_with fail
  refine (gawake_any _).mono ?_
  rintro e w14 ⟨rfl, B14⟩
  replace HB := bthen HB B14
  clear B14
  go_wp2_with fail
  go_ret
  exact ⟨rfl, HB⟩
set_option maxHeartbeats 1600000 in
theorem behind_list (l q : Pc.B) (_hl : l.length ≤ 9223372036854775807) (_hq : q.length ≤ 9223372036854775807) (w : World) : Calls Try.prog 6 #[.string ⟨l.toArray⟩, .string ⟨q.toArray⟩] w fun e w' => e = .returned (.bool true) ∧ Below w.heap.size w w' := by
  by_cases h1 : 100 < l.length
  · go_enter Try.func6, Try.ntmps6
    go_wp2_with fail
    refine (gawake_any _).mono ?_
    rintro e w1 ⟨rfl, B1⟩
    go_wp2_with fail
    go_ret
    exact ⟨rfl, B1⟩
  · by_cases h2 : 60 < q.length
    · go_enter Try.func6, Try.ntmps6
      go_wp2_with fail
      refine (gawake_any _).mono ?_
      rintro e w1 ⟨rfl, B1⟩
      go_wp2_with fail
      go_ret
      exact ⟨rfl, B1⟩
    · rcases hm : (l.filter fun c => QH.has c.toNat) with _ | ⟨c, t⟩
      · exact behind_yes l q (by omega) (by omega) hm w
      · have HO1 := Lib.hid (fun w => only_any l QH ok_QH (by omega) w)
        rw [hm] at HO1
        clear hm
        go_enter Try.func6, Try.ntmps6
        go_wp2_with fail
        have hb0 : w.heap.size < (w.alloc (.cells #[.int .u8 63, .int .u8 35] 5)).heap.size := by simp
        have hbt : BAt (w.alloc (.cells #[.int .u8 63, .int .u8 35] 5)) w.heap.size [63, 35] := bat2 w 63 35
        have HB : Below w.heap.size w (w.alloc (.cells #[.int .u8 63, .int .u8 35] 5)) := (Below.refl _ _).alloc (Nat.le_refl _) _
        generalize w.alloc (.cells #[.int .u8 63, .int .u8 35] 5) = w1 at hb0 hbt HB ⊢
        refine (of_any w.heap.size _ [63, 35] (by simp) _ hb0 hbt).mono ?_
        rw [show W4.ofList [63, 35] = QH from rfl]
        rintro e w2 ⟨rfl, B2⟩
        replace HB := bthen HB B2
        clear B2 hb0 hbt
        go_wp2_with fail
        refine (HO1.out _).mono ?_
        rintro e w3 ⟨rfl, B3⟩
        replace HB := bthen HB B3
        clear B3
        go_wp2_with fail
        refine (gawake_any _).mono ?_
        rintro e w14 ⟨rfl, B14⟩
        replace HB := bthen HB B14
        clear B14
        go_wp2_with fail
        go_ret
        exact ⟨rfl, HB⟩
theorem behind_any (a : ByteArray) (ha : a.size ≤ maxLen) (b : ByteArray) (hb : b.size ≤ maxLen) (w : World) : Calls Try.prog 6 #[.string a, .string b] w fun e w' => e = .returned (.bool true) ∧ Below w.heap.size w w' := by
  have h : a.data.toList.length ≤ 9223372036854775807 := by rw [data_length]; exact ha
  have h' : b.data.toList.length ≤ 9223372036854775807 := by rw [data_length]; exact hb
  rw [str_eq a, str_eq b]
  exact behind_list _ _ h h' w
end Go.Proofs.Ytpccfagbmbbpkaa
