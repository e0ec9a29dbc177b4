/-
  The document's own answers for layer 20: bytes, and places in a text.
-/
import Derived.Test.YtpccfagbmbbpkaaSome
namespace Go.Proofs.Ytpccfagbmbbpkaa
open Go.RowKit Go.Proofs.YtpccfagbmbbpkaaW.PrintWords

theorem mem_drop (s : Pc.B) (c k : Nat) (h : k < s.length) : Gu.mem (s.drop k) c = (decide (s[k].toNat = c) || Gu.mem (s.drop (k + 1)) c) := by
  unfold Gu.mem
  rw [List.drop_eq_getElem_cons h, List.any_cons]
set_option maxHeartbeats 800000 in
theorem is_any (c : Nat) (s : Pc.B) (hs : s.length ≤ 1000000) (w : World) : Calls Try.prog 42 #[.int .u8 c, .string ⟨s.toArray⟩] w fun e w' => e = .returned (.bool (Gu.mem s c)) ∧ w = w' := by
  go_enter Try.func42, Try.ntmps42
  go_wp2
  go_loop [5] (fun i => ∃ k : Nat, k ≤ s.length ∧ i = .int .i64 k ∧ Hid (Gu.mem s c = Gu.mem (s.drop k) c)) (fun i => s.length - (intOf i).toNat)
  case atStart => exact ⟨0, by omega, rfl, Lib.hid rfl⟩
  case round =>
    obtain ⟨k, hk, rfl, HV⟩ := hrel
    by_cases hlt : k < s.length
    · have hd := Lib.hid (mem_drop s c k hlt)
      by_cases hc : s[k].toNat = c
      · have hb : ((s[k].toNat : Int) == (c : Int)) = true := by rw [hc]; simp
        have HC := Lib.hid hc
        clear hc
        go_wp2
        go_ret
        refine ⟨ret_bool ?_, rfl⟩
        rw [HV.out, hd.out, decide_eq_true HC.out]; rfl
      · have hb : ((s[k].toNat : Int) == (c : Int)) = false := by rw [beq_eq_false_iff_ne]; omega
        have HC := Lib.hid hc
        clear hc
        go_wp2
        go_round
        case rel =>
          refine ⟨k + 1, by omega, by go_num, Lib.hid ?_⟩
          rw [HV.out, hd.out, decide_eq_false HC.out]; rfl
        case measure => simp [intOf]; omega
    · go_wp2
      go_ret
      refine ⟨ret_bool ?_, rfl⟩
      rw [HV.out, List.drop_eq_nil_of_le (by omega)]; rfl
theorem letter_any (c : Nat) (w : World) : Calls Try.prog 44 #[.int .u8 c] w fun e w' => e = .returned (.bool (Gu.ltr c)) ∧ w = w' := by
  go_enter Try.func44, Try.ntmps44
  go_wp2
  all_goals go_ret
  all_goals refine ⟨ret_bool ?_, rfl⟩
  all_goals unfold Gu.ltr
  all_goals rw [Bool.eq_iff_iff]
  all_goals simp
  all_goals omega
theorem digit_any (c : Nat) (w : World) : Calls Try.prog 45 #[.int .u8 c] w fun e w' => e = .returned (.bool (Gu.dgt c)) ∧ w = w' := by
  go_enter Try.func45, Try.ntmps45
  go_wp2
  all_goals go_ret
  all_goals refine ⟨ret_bool ?_, rfl⟩
  all_goals unfold Gu.dgt
  all_goals rw [Bool.eq_iff_iff]
  all_goals simp
  all_goals omega
theorem rhex_any (c : Nat) (w : World) : Calls Try.prog 43 #[.int .u8 c] w fun e w' => e = .returned (.bool (Pc.ok c)) ∧ w = w' := by
  cases hd : Gu.dgt c
  all_goals
    have HD := Lib.hid hd
    go_enter Try.func43, Try.ntmps43
    go_wp2_with (go_at_call 45; refine (digit_any _ _).mono ?_; rintro e w' ⟨rfl, rfl⟩)
    all_goals go_ret
    all_goals refine ⟨ret_bool ?_, rfl⟩
    all_goals have hd' := HD.out
    all_goals unfold Gu.dgt at hd'
    all_goals unfold Pc.ok
    all_goals rw [Bool.eq_iff_iff]
    all_goals simp at hd' ⊢
    all_goals omega
/-- The first place of one of some bytes, from a place on. -/
def fst (s l : Pc.B) (k : Nat) : Nat := k + ((l.drop k).takeWhile fun c => !Gu.mem s c.toNat).length
theorem fst_drop (s l : Pc.B) (k : Nat) (h : k < l.length) : fst s l k = if Gu.mem s l[k].toNat then k else fst s l (k + 1) := by
  unfold fst
  rw [List.drop_eq_getElem_cons h, List.takeWhile_cons]
  cases Gu.mem s l[k].toNat
  · simp; omega
  · simp
theorem fst_end (s l : Pc.B) (k : Nat) (h : l.length ≤ k) : fst s l k = k := by
  unfold fst; rw [List.drop_eq_nil_of_le h]; rfl
theorem fst_bd (s l : Pc.B) (k : Nat) (h : k ≤ l.length) : k ≤ fst s l k ∧ fst s l k ≤ l.length := by
  unfold fst
  have := (List.takeWhile_sublist (fun c : UInt8 => !Gu.mem s c.toNat) (l := l.drop k)).length_le
  rw [List.length_drop] at this
  omega
set_option maxHeartbeats 800000 in
theorem first_any (l s : Pc.B) (hl : l.length ≤ 1000000) (hs : s.length ≤ 1000000) (f : Nat) (hf : f ≤ l.length) (w : World) : Calls Try.prog 26 #[.string ⟨l.toArray⟩, .string ⟨s.toArray⟩, .int .i64 f] w fun e w' => e = .returned (.int .i64 (fst s l f)) ∧ w = w' := by
  go_enter Try.func26, Try.ntmps26
  go_wp2
  go_loop [7] (fun i => ∃ k : Nat, k ≤ l.length ∧ i = .int .i64 k ∧ Hid (fst s l f = fst s l k)) (fun i => l.length - (intOf i).toNat)
  case atStart => exact ⟨f, by omega, rfl, Lib.hid rfl⟩
  case round =>
    obtain ⟨k, hk, rfl, HV⟩ := hrel
    by_cases hlt : k < l.length
    · have hd := Lib.hid (fst_drop s l k hlt)
      have hb := l[k].toNat_lt
      cases hm : Gu.mem s l[k].toNat
      · go_wp2_with (go_at_call 42; refine (is_any l[k].toNat s hs _).mono ?_; rw [hm]; rintro e w' ⟨rfl, rfl⟩)
        go_round
        case rel =>
          refine ⟨k + 1, by omega, by go_num, Lib.hid ?_⟩
          rw [HV.out, hd.out, hm]; rfl
        case measure => simp [intOf]; omega
      · go_wp2_with (go_at_call 42; refine (is_any l[k].toNat s hs _).mono ?_; rw [hm]; rintro e w' ⟨rfl, rfl⟩)
        go_ret
        refine ⟨ret_int ?_, rfl⟩
        rw [HV.out, hd.out, hm]; rfl
    · go_wp2
      go_ret
      refine ⟨ret_int ?_, rfl⟩
      rw [HV.out, fst_end _ _ _ (by omega)]
      omega
theorem pre_drop (l s : Pc.B) (f : Nat) : List.isPrefixOf s (l.drop f) = (((l.take (f + s.length)).drop f) == s) := by
  rw [List.drop_take, show f + s.length - f = s.length by omega]
  rw [Bool.eq_iff_iff, List.isPrefixOf_iff_prefix, List.prefix_iff_eq_take, beq_iff_eq]
  exact eq_comm
theorem pre_short (l s : Pc.B) (f : Nat) (h0 : 0 < s.length) (h : ¬ f + s.length ≤ l.length) : List.isPrefixOf s (l.drop f) = false := by
  rw [Bool.eq_false_iff]
  intro g
  have := (List.isPrefixOf_iff_prefix.1 g).length_le
  rw [List.length_drop] at this
  omega
set_option maxHeartbeats 800000 in
theorem starts_any (l s : Pc.B) (hl : l.length ≤ 1000000) (hs : s.length ≤ 1000000) (h0 : 0 < s.length) (f : Nat) (hf : f ≤ l.length) (w : World) : Calls Try.prog 29 #[.string ⟨l.toArray⟩, .string ⟨s.toArray⟩, .int .i64 f] w fun e w' => e = .returned (.bool (List.isPrefixOf s (l.drop f))) ∧ w = w' := by
  by_cases h : f + s.length ≤ l.length
  · have hp := Lib.hid (pre_drop l s f)
    have f1 : (0 : Int) ≤ (f : Int) := by omega
    have f2 : (f : Int) ≤ ((f + s.length : Nat) : Int) := by omega
    have f3 : (f : Int) + (s.length : Int) ≤ (l.length : Int) := by omega
    have f4 : decide (f + s.length ≤ l.length) = true := by simpa using h
    have f5 : (f : Int) ≤ (f : Int) + (s.length : Int) := by omega
    have f6 : ((f : Int) + (s.length : Int)).toNat = f + s.length := by omega
    go_enter Try.func29, Try.ntmps29
    go_wp2
    go_ret
    refine ⟨ret_bool ?_, rfl⟩
    rw [hp.out, List.drop_take, Nat.add_sub_cancel_left]
  · have hp := Lib.hid (pre_short l s f h0 h)
    have f3 : ¬ (f : Int) + (s.length : Int) ≤ (l.length : Int) := by omega
    go_enter Try.func29, Try.ntmps29
    go_wp2
    go_ret
    refine ⟨ret_bool ?_, rfl⟩
    rw [hp.out]

/-! ### the last place of a byte -/
theorem lst_snoc (c d : UInt8) (m : Pc.B) : Gu.lst c (m ++ [d]) = if d = c then (m.length : Int) else Gu.lst c m := by
  induction m with
  | nil => simp [Gu.lst]
  | cons e t ih =>
    have h1 := Gu.lst_ge c t
    rw [List.cons_append, Gu.lst, ih, Gu.lst]
    by_cases hd : d = c
    · rw [if_pos hd, if_pos hd, if_pos (by omega), List.length_cons]; omega
    · rw [if_neg hd, if_neg hd]
theorem sl_succ (l : Pc.B) (f k : Nat) (hf : f ≤ k) (h : k < l.length) : (l.take (k + 1)).drop f = (l.take k).drop f ++ [l[k]] := by
  rw [List.take_succ_eq_append_getElem h, List.drop_append_of_le_length (by simp; omega)]
/-- The last place of a byte between two places; -1: there is none. -/
def lv (c : UInt8) (l : Pc.B) (f k : Nat) : Int := if Gu.lst c ((l.take k).drop f) < 0 then -1 else f + Gu.lst c ((l.take k).drop f)
theorem lv_start (c : UInt8) (l : Pc.B) (f : Nat) : lv c l f f = -1 := by
  unfold lv
  rw [List.drop_eq_nil_of_le (by simp; omega)]
  rfl
theorem lv_succ (c : UInt8) (l : Pc.B) (f k : Nat) (hf : f ≤ k) (h : k < l.length) : lv c l f (k + 1) = if l[k] = c then (k : Int) else lv c l f k := by
  unfold lv
  rw [sl_succ l f k hf h, lst_snoc]
  have hlen : ((l.take k).drop f).length = k - f := by simp; omega
  by_cases hc : l[k] = c
  · rw [if_pos hc, if_pos hc, hlen, if_neg (by omega)]; omega
  · rw [if_neg hc, if_neg hc]
set_option maxHeartbeats 800000 in
theorem last_any (l : Pc.B) (hl : l.length ≤ 1000000) (c : UInt8) (f t : Nat) (hf : f ≤ t) (ht : t ≤ l.length) (w : World) : Calls Try.prog 30 #[.string ⟨l.toArray⟩, .int .u8 (c.toNat : Int), .int .i64 f, .int .i64 t] w fun e w' => e = .returned (.int .i64 (lv c l f t)) ∧ w = w' := by
  have hst := lv_start c l f
  have HST := Lib.hid hst
  clear hst
  go_enter Try.func30, Try.ntmps30
  go_wp2
  go_loop [9, 10] (fun a i => ∃ k : Nat, f ≤ k ∧ k ≤ t ∧ i = .int .i64 k ∧ a = .int .i64 (lv c l f k)) (fun _ i => t - (intOf i).toNat)
  case atStart => exact ⟨f, by omega, by omega, rfl, by rw [HST.out]⟩
  case round =>
    obtain ⟨k, hfk, hkt, rfl, rfl⟩ := hrel
    by_cases hlt : k < t
    · have hkl : k < l.length := by omega
      have hd := Lib.hid (lv_succ c l f k hfk hkl)
      by_cases hc : l[k] = c
      · have hb : ((l[k].toNat : Int) == (c.toNat : Int)) = true := by rw [hc]; simp
        have HC := Lib.hid hc
        clear hc
        go_wp2
        go_round
        case rel => exact ⟨k + 1, by omega, by omega, by go_num, by rw [hd.out, if_pos HC.out]⟩
        case measure => simp [intOf]; omega
      · have hb : ((l[k].toNat : Int) == (c.toNat : Int)) = false := beq_f (u8_ne hc)
        have HC := Lib.hid hc
        clear hc
        go_wp2
        go_round
        case rel => exact ⟨k + 1, by omega, by omega, by go_num, by rw [hd.out, if_neg HC.out]⟩
        case measure => simp [intOf]; omega
    · obtain rfl : k = t := by omega
      go_wp2
      go_ret
      exact ⟨rfl, rfl⟩
end Go.Proofs.Ytpccfagbmbbpkaa
