/-
  GourlSpans: Host and Path stand in the text, one behind the other: the call returns true.
-/
import Derived.Test.YtpccfagbmbbpkaaEq
namespace Go.Proofs.Ytpccfagbmbbpkaa
open Go.RowKit Go.Proofs.YtpccfagbmbbpkaaW.PrintWords

/-! ### plain: where they stand -/
def Inf (x l : Pc.B) : Prop := ∃ a b, l = a ++ x ++ b
theorem Inf.nil (l : Pc.B) : Inf [] l := ⟨[], l, rfl⟩
theorem Inf.refl (l : Pc.B) : Inf l l := ⟨[], [], by simp⟩
theorem Inf.take (l : Pc.B) (n : Nat) : Inf (l.take n) l := ⟨[], l.drop n, by simp⟩
theorem Inf.drop {x l : Pc.B} {n : Nat} (h : Inf x (l.drop n)) : Inf x l := by
  obtain ⟨a, b, e⟩ := h
  exact ⟨l.take n ++ a, b, by rw [List.append_assoc, List.append_assoc, ← List.append_assoc a, ← e, List.take_append_drop]⟩
theorem place_inf (l : Pc.B) : Inf (Gu.place l).1 l := by
  unfold Gu.place
  split
  · exact Inf.nil _
  · exact Inf.take _ _
theorem host_inf (l : Pc.B) : Inf (Gu.host l).1 l := by
  unfold Gu.host
  split
  · exact place_inf l
  · split
    · exact (place_inf _).drop
    · exact Inf.nil _
/-- One behind the other. -/
def Two (h p l : Pc.B) : Prop := ∃ a b c, l = a ++ h ++ b ++ p ++ c
theorem rooted_two' {l h p : Pc.B} {s : Bool} (e : Gu.rooted l s = some (h, p)) : Two h p l := by
  unfold Gu.rooted at e
  split at e
  · split at e
    · split at e
      · simp only [Option.some.injEq, Prod.mk.injEq] at e
        obtain ⟨rfl, rfl⟩ := e
        obtain ⟨a, b, hab⟩ := host_inf (Gu.bef 47 (l.drop 2))
        refine ⟨l.take 2 ++ a, b, [], ?_⟩
        have h1 : (l.drop 2) = Gu.bef 47 (l.drop 2) ++ (l.drop 2).drop (Gu.bef 47 (l.drop 2)).length := by
          conv => lhs; rw [← List.take_append_drop (Gu.bef 47 (l.drop 2)).length (l.drop 2)]
          rw [bef_take]
        rw [List.append_nil, List.append_assoc, List.append_assoc, List.append_assoc, ← List.append_assoc (Gu.host _).1, ← List.append_assoc a, ← List.append_assoc a, ← hab, ← h1, List.take_append_drop]
      · cases e
    · cases e
  · split at e
    · simp only [Option.some.injEq, Prod.mk.injEq] at e
      obtain ⟨rfl, rfl⟩ := e
      exact ⟨[], [], [], by simp⟩
    · cases e
theorem Two.wide {h p l x y : Pc.B} (t : Two h p l) : Two h p (x ++ l ++ y) := by
  obtain ⟨a, b, c, rfl⟩ := t
  exact ⟨x ++ a, b, c ++ y, by simp⟩
theorem rest_inf (w : Pc.B) : Inf (Gu.rest w) w := by
  unfold Gu.rest
  have h1 : ∀ (c : UInt8) (l : Pc.B), Inf (Gu.bef c l) l := fun c l => by rw [← bef_take]; exact Inf.take _ _
  obtain ⟨a, b, e⟩ := (h1 63 ((Gu.bef 35 w).drop ((Gu.sch 0 (Gu.bef 35 w)).1 + 1).toNat)).drop
  obtain ⟨a', b', e'⟩ := h1 35 w
  refine ⟨a' ++ a, b ++ b', ?_⟩
  conv => lhs; rw [e', e]
  simp
theorem parse_two {w h p : Pc.B} (e : Gu.parse w = some (h, p)) : Two h p w := by
  obtain ⟨x, y, hxy⟩ := rest_inf w
  have hr : ∀ s, Gu.rooted (Gu.rest w) s = some (h, p) → Two h p w := fun s g => by
    rw [hxy]; exact (rooted_two' g).wide
  unfold Gu.parse at e
  split at e
  · cases e
  · split at e
    · cases e
    · split at e
      · split at e
        · simp only [Option.some.injEq, Prod.mk.injEq] at e
          obtain ⟨rfl, rfl⟩ := e
          exact ⟨[], [], w, by simp⟩
        · split at e
          · cases e
          · exact hr _ e
      · exact hr _ e
theorem two_at {h p l : Pc.B} (t : Two h p l) : ∃ A P : Nat, A + h.length ≤ P ∧ P + p.length ≤ l.length ∧ (l.drop A).take h.length = h ∧ (l.drop P).take p.length = p := by
  obtain ⟨a, b, c, rfl⟩ := t
  refine ⟨a.length, a.length + h.length + b.length, by omega, by simp; omega, ?_, ?_⟩
  · simp
  · have : a ++ h ++ b ++ p ++ c = (a ++ h ++ b) ++ (p ++ c) := by simp
    rw [this, show a.length + h.length + b.length = (a ++ h ++ b).length by simp; omega, List.drop_left]
    simp

/-! ### the walk -/
set_option maxHeartbeats 1600000 in
theorem spans_none (l : Pc.B) (hl : l.length ≤ 300) (hn : Gu.parse l = none) (w : World) : Calls Try.prog 5 #[.string ⟨l.toArray⟩] w fun e w' => e = .returned (.bool true) ∧ Below w.heap.size w w' := by
  have HE : ∀ w, (binOp .eql 24 (.agg #[.bool false, .string ⟨#[]⟩, .string ⟨#[]⟩]) (.agg #[.bool false, .string ⟨#[]⟩, .string ⟨#[]⟩])).run Try.prog w = .ok (.bool true) w := fun w => eq_res none none w
  have HG := fun op x y w => eqg_agg op x y #[.bool false, .string ⟨#[]⟩, .string ⟨#[]⟩] #[.bool false, .string ⟨#[]⟩, .string ⟨#[]⟩] w
  have HP := Lib.hid (fun w => parse_k l (by omega) none hn w)
  clear hn
  go_enter Try.func5, Try.ntmps5
  go_wp2_with fail
  refine (HP.out _).mono ?_
  rintro e w1 ⟨rfl, B1⟩
  unfold res
  go_wp2_with fail
  refine (gawake_any _).mono ?_
  rintro e w2 ⟨rfl, B2⟩
  have HB : Below w.heap.size w w2 := (B1.alloc B1.size _).trans (B2.mono (by have := B1.size; simp; omega))
  clear B1 B2
  go_wp2_with fail
  go_ret
  exact ⟨rfl, HB⟩
set_option maxRecDepth 100000 in
set_option maxHeartbeats 3200000 in
theorem spans_some (l : Pc.B) (hl : l.length ≤ 300) (h p : Pc.B) (hn : Gu.parse l = some (h, p)) (w : World) : Calls Try.prog 5 #[.string ⟨l.toArray⟩] w fun e w' => e = .returned (.bool true) ∧ Below w.heap.size w w' := by
  obtain ⟨A, P, hAP, hPl, hA, hPp⟩ := two_at (parse_two hn)
  have HP := Lib.hid (fun w => parse_k l (by omega) (some (h, p)) hn w)
  have HA := Lib.hid hA
  have HPP := Lib.hid hPp
  clear hn hA hPp
  go_enter Try.func5, Try.ntmps5
  go_wp2_with fail
  refine (HP.out _).mono ?_
  rintro e w1 ⟨rfl, B1⟩
  unfold res
  have HB0 := B1.alloc B1.size (.cells #[.bool true, .string ⟨h.toArray⟩, .string ⟨p.toArray⟩] 24)
  have HK0 := Lib.hid (blk_new w1 (.cells #[.bool true, .string ⟨h.toArray⟩, .string ⟨p.toArray⟩] 24))
  have hhl : h.length ≤ 300 := by omega
  have hpl : p.length ≤ 300 := by omega
  go_wp2_with fail
  go_loopw [4] (fun i wr => ∃ k : Nat, k ≤ A ∧ i = .int .i64 k ∧ Below w.heap.size w wr ∧ Hid (wr.heap[w1.heap.size]? = some (.cells #[.bool true, .string ⟨h.toArray⟩, .string ⟨p.toArray⟩] 24 (0, 0)))) (fun i _ => A + 1 - (intOf i).toNat)
  case atStart => exact ⟨0, by omega, rfl, HB0, HK0⟩
  case round =>
    clear HB0 HK0 B1
    obtain ⟨k, hk, rfl, HB, HK⟩ := hrel
    obtain ⟨wo, rfl⟩ : ∃ wo : World, wo = wr := ⟨_, rfl⟩
    have c1 := blk_cell HK.out 1
    have c2 := blk_cell HK.out 2
    simp at c1 c2
    have i1 : (0 : Int) ≤ (k : Int) := by omega
    have i2 : (k : Int) + (h.length : Int) ≤ (l.length : Int) := by omega
    have i3 : (k : Int) ≤ (k : Int) + (h.length : Int) := by omega
    have i4 : ((k : Int) + (h.length : Int)).toNat = k + h.length := by omega
    have i5 : decide (k + h.length ≤ l.length) = true := by simp; omega
    have i6 : k + h.length - k = h.length := by omega
    cases hm : ((l.drop k).take h.length == h)
    · have hne : k ≠ A := by rintro rfl; rw [HA.out] at hm; simp at hm
      go_wp2_with fail
      go_quiet (fail)
      go_wp2_with fail
      go_roundw
      case rel => exact ⟨k + 1, by omega, by go_num, bl_drewN HB, Lib.hid HK.out⟩
      case measure => simp [intOf]; omega
    · go_wp2_with fail
      go_quiet (fail)
      go_wp2_with fail
      go_loopw [5] (fun i wr => ∃ j : Nat, k + h.length ≤ j ∧ j ≤ P ∧ i = .int .i64 j ∧ Below w.heap.size w wr ∧ Hid (wr.heap[w1.heap.size]? = some (.cells #[.bool true, .string ⟨h.toArray⟩, .string ⟨p.toArray⟩] 24 (0, 0)))) (fun i _ => P + 1 - (intOf i).toNat)
      case atStart => exact ⟨k + h.length, by omega, by omega, by go_num, bl_drewN HB, Lib.hid HK.out⟩
      case round =>
        clear HB HK c1 c2 i1 i2 i3 i4 i5 i6 hm
        obtain ⟨j, hkj, hj, rfl, HB, HK⟩ := hrel
        have c1 := blk_cell HK.out 1
        have c2 := blk_cell HK.out 2
        simp at c1 c2
        have i1 : (0 : Int) ≤ (j : Int) := by omega
        have i2 : (j : Int) + (p.length : Int) ≤ (l.length : Int) := by omega
        have i3 : (j : Int) ≤ (j : Int) + (p.length : Int) := by omega
        have i4 : ((j : Int) + (p.length : Int)).toNat = j + p.length := by omega
        have i5 : decide (j + p.length ≤ l.length) = true := by simp; omega
        have i6 : j + p.length - j = p.length := by omega
        cases hm : ((l.drop j).take p.length == p)
        · have hne : j ≠ P := by rintro rfl; rw [HPP.out] at hm; simp at hm
          go_wp2_with fail
          go_quiet (fail)
          go_wp2_with fail
          go_roundw
          case rel => first | exact ⟨j + 1, by omega, by omega, by go_num, bl_drewN HB, Lib.hid HK.out⟩ | ((repeat apply Exists.intro); exact ⟨⟨j + 1, by omega, by omega, by go_num, bl_drewN HB, Lib.hid HK.out⟩, rfl⟩)
          case measure => simp [intOf]; omega
        · go_wp2_with fail
          go_quiet (fail)
          have HB1 := bl_drewN (n := nq) HB
          clear HB HK c1 c2
          go_wp2_with fail
          refine (gawake_any _).mono ?_
          rintro e w2 ⟨rfl, B2⟩
          have HB2 := HB1.trans (B2.mono HB1.size)
          clear B2 HB1
          go_wp2_with fail
          go_ret
          exact ⟨rfl, HB2⟩
theorem spans_list (l : Pc.B) (_hl : l.length ≤ 9223372036854775807) (w : World) : Calls Try.prog 5 #[.string ⟨l.toArray⟩] w fun e w' => e = .returned (.bool true) ∧ Below w.heap.size w w' := by
  by_cases h3 : 300 < l.length
  · go_enter Try.func5, Try.ntmps5
    go_wp2_with fail
    refine (gawake_any _).mono ?_
    rintro e w1 ⟨rfl, B1⟩
    go_wp2_with fail
    go_ret
    exact ⟨rfl, B1⟩
  · rcases ho : Gu.parse l with _ | ⟨h, p⟩
    · exact spans_none l (by omega) ho w
    · exact spans_some l (by omega) h p ho w
theorem spans_any (a : ByteArray) (ha : a.size ≤ maxLen) (w : World) : Calls Try.prog 5 #[.string a] w fun e w' => e = .returned (.bool true) ∧ Below w.heap.size w w' := by
  have h : a.data.toList.length ≤ 9223372036854775807 := by rw [data_length]; exact ha
  rw [str_eq a]
  exact spans_list _ h w
end Go.Proofs.Ytpccfagbmbbpkaa
