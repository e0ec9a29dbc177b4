/-
  Package gourl: the host of an authority, what is told of a rest, and Parse.
-/
import Derived.Test.YtpccfagbmbbpkaaHost
namespace Go.Proofs.Ytpccfagbmbbpkaa
open Go.RowKit Go.Proofs.YtpccfagbmbbpkaaW.PrintWords

theorem place_any (l : Pc.B) (hl : l.length ≤ 1000000) (w : World) : Calls Try.prog 52 #[.string ⟨l.toArray⟩] w fun e w' => e = .returned (.tuple #[.string ⟨(Gu.place l).1.toArray⟩, .bool (Gu.place l).2]) ∧ Below w.heap.size w w' := by
  by_cases h : Gu.placeN l < 0
  · have e : Gu.place l = ([], false) := by unfold Gu.place; rw [if_pos h]
    rw [e]
    exact place_no l hl h w
  · obtain ⟨n, hn⟩ : ∃ n : Nat, Gu.placeN l = n := ⟨(Gu.placeN l).toNat, by omega⟩
    have e : Gu.place l = (l.take n, Gu.port (l.drop n) && Gu.named (l.take n)) := by unfold Gu.place; rw [if_neg h, hn]; rfl
    rw [e]
    exact place_yes l hl n hn w
theorem all_usr (l : Pc.B) : (l.all fun c => (Gu.SM Gu.usrB).has c.toNat) = Gu.usrA l := by
  unfold Gu.usrA
  congr 1
  funext c
  rw [Gu.has_SM _ _ c.toNat_lt]
set_option maxHeartbeats 1600000 in
theorem host_any (l : Pc.B) (hl : l.length ≤ 1000000) (w : World) : Calls Try.prog 41 #[.string ⟨l.toArray⟩] w fun e w' => e = .returned (.tuple #[.string ⟨(Gu.host l).1.toArray⟩, .bool (Gu.host l).2]) ∧ Below w.heap.size w w' := by
  have H1 := Lib.hid (fun w => (Try.strings_LastIndexByte ⟨l.toArray⟩ 64 (by simp [ByteArray.size]; omega) w))
  have e1 : Lib.lastIndexByte ⟨l.toArray⟩ 64 = Gu.lst 64 l := lst_lib 64 l
  have g := Gu.lst_ge 64 l
  have HH : Hid (Gu.host l = if Gu.lst 64 l < 0 then Gu.place l else if Gu.usr (l.take (Gu.lst 64 l).toNat) then Gu.place (l.drop ((Gu.lst 64 l).toNat + 1)) else ([], false)) := Lib.hid rfl
  rw [e1] at H1
  generalize Gu.lst 64 l = n at H1 HH g
  clear e1
  by_cases hn : n < 0
  · have hg : Gu.host l = Gu.place l := by rw [HH.out, if_pos hn]
    rw [hg]
    clear hg HH
    go_enter Try.func41, Try.ntmps41
    go_wp2_with fail
    refine (H1.out _).mono ?_
    rintro e w' ⟨rfl, rfl⟩
    go_wp2_with fail
    refine (place_any l hl _).mono ?_
    rintro e w1 ⟨rfl, B1⟩
    go_wp2_with fail
    go_ret2
    exact ⟨rfl, B1⟩
  · obtain ⟨n, rfl⟩ : ∃ k : Nat, n = k := ⟨n.toNat, by omega⟩
    have HG : Hid (Gu.host l = if Gu.usrA (l.take n) && Pc.valid (l.take n) then Gu.place (l.drop (n + 1)) else ([], false)) := Lib.hid (by rw [HH.out, if_neg hn]; rfl)
    have f1 : (0 : Int) ≤ (n : Int) := by omega
    have f2 : (n : Int) ≤ (l.length : Int) := by omega
    have f3 : (n : Int) + 1 ≤ (l.length : Int) := by omega
    clear HH hn
    have ht : (l.take n).length ≤ 1000000 := by simp; omega
    have htd : (l.drop (n + 1)).length ≤ 1000000 := by simp; omega
    have HOF := Lib.hid (gof_any (l.take n) ht (Gu.SM Gu.usrB) (Gu.ok_SM _))
    rw [all_usr] at HOF
    have HT := Lib.hid ht
    have HTD := Lib.hid htd
    clear ht htd
    cases u1 : Gu.usrA (l.take n)
    · rw [HG.out, u1]
      go_enter Try.func41, Try.ntmps41
      go_wp2_with fail
      refine (H1.out _).mono ?_
      rintro e w' ⟨rfl, rfl⟩
      go_wp2_with fail
      refine (some_any Gu.usrB (by decide) _).mono ?_
      rintro e w1 ⟨rfl, B1⟩
      go_wp2_with fail
      refine (HOF.out _).mono ?_
      rw [u1]
      rintro e w2 ⟨rfl, B2⟩
      have HB := bthen B1 B2
      clear B1 B2
      go_wp2_with fail
      go_ret2
      exact ⟨rfl, HB⟩
    · cases u2 : Pc.valid (l.take n)
      · rw [HG.out, u1, u2]
        go_enter Try.func41, Try.ntmps41
        go_wp2_with fail
        refine (H1.out _).mono ?_
        rintro e w' ⟨rfl, rfl⟩
        go_wp2_with fail
        refine (some_any Gu.usrB (by decide) _).mono ?_
        rintro e w1 ⟨rfl, B1⟩
        go_wp2_with fail
        refine (HOF.out _).mono ?_
        rw [u1]
        rintro e w2 ⟨rfl, B2⟩
        have HB := bthen B1 B2
        clear B1 B2
        go_wp2_with fail
        refine (valid_any (l.take n) (by have := HT.out; omega) _).mono ?_
        rw [u2]
        rintro e w3 ⟨rfl, rfl⟩
        go_wp2_with fail
        go_ret2
        exact ⟨rfl, HB⟩
      · rw [HG.out, u1, u2]
        go_enter Try.func41, Try.ntmps41
        go_wp2_with fail
        refine (H1.out _).mono ?_
        rintro e w' ⟨rfl, rfl⟩
        go_wp2_with fail
        refine (some_any Gu.usrB (by decide) _).mono ?_
        rintro e w1 ⟨rfl, B1⟩
        go_wp2_with fail
        refine (HOF.out _).mono ?_
        rw [u1]
        rintro e w2 ⟨rfl, B2⟩
        have HB := bthen B1 B2
        clear B1 B2
        go_wp2_with fail
        refine (valid_any (l.take n) (by have := HT.out; omega) _).mono ?_
        rw [u2]
        rintro e w3 ⟨rfl, rfl⟩
        go_wp2_with fail
        refine (place_any (l.drop (n + 1)) HTD.out _).mono ?_
        rintro e w4 ⟨rfl, B4⟩
        have HB4 := bthen HB B4
        clear HB B4
        go_wp2_with fail
        go_ret2
        exact ⟨rfl, HB4⟩

/-! ### Cut at one byte -/
theorem idx_cases (c : UInt8) (l : Pc.B) : (Lib.indexByte l c = -1 ∧ Gu.bef c l = l ∧ Gu.aft c l = []) ∨ ∃ k : Nat, k < l.length ∧ Lib.indexByte l c = k ∧ Gu.bef c l = l.take k ∧ Gu.aft c l = l.drop (k + 1) := by
  induction l with
  | nil => left; exact ⟨rfl, rfl, rfl⟩
  | cons d t ih =>
    by_cases hd : d = c
    · right
      refine ⟨0, by simp, by simp [Lib.indexByte, hd], by simp [Gu.bef, hd], by simp [Gu.aft, hd]⟩
    · have hb : (d == c) = false := by simpa using hd
      have hb' : (d != c) = true := by simpa using hd
      have e1 : Gu.bef c (d :: t) = d :: Gu.bef c t := by unfold Gu.bef; rw [List.takeWhile_cons, hb']; rfl
      have e2 : Gu.aft c (d :: t) = Gu.aft c t := by unfold Gu.aft; rw [List.dropWhile_cons, hb']; rfl
      rcases ih with ⟨h1, h2, h3⟩ | ⟨k, hk, h1, h2, h3⟩
      · left
        exact ⟨by simp [Lib.indexByte, hb, h1], by rw [e1, h2], by rw [e2, h3]⟩
      · right
        refine ⟨k + 1, by simpa using hk, ?_, by rw [e1, h2]; rfl, by rw [e2, h3]; rfl⟩
        simp only [Lib.indexByte, hb, h1]
        have : ((k : Int) == -1) = false := by rw [beq_eq_false_iff_ne]; omega
        simp [this]
set_option maxHeartbeats 800000 in
theorem lcut_one (c : UInt8) (l : Pc.B) (hl : l.length ≤ 1000000) (w : World) : Calls Try.prog 35 #[.string ⟨l.toArray⟩, .string ⟨#[c]⟩] w fun e w' => e = .returned (.tuple #[.string ⟨(Gu.bef c l).toArray⟩, .string ⟨(Gu.aft c l).toArray⟩, .bool (decide (0 ≤ Lib.indexByte l c))]) ∧ ∃ n, w' = w.drewN n := by
  have H := Lib.hid (fun w => Try.stringslite_Index_one ⟨l.toArray⟩ c w)
  rw [show (ByteArray.mk l.toArray).data.toList = l from rfl] at H
  rcases idx_cases c l with ⟨h1, h2, h3⟩ | ⟨k, hk, h1, h2, h3⟩
  · rw [h1] at H
    rw [h1, h2, h3]
    clear h1 h2 h3
    go_enter Try.func35, Try.ntmps35
    go_wp2_with fail
    refine (H.out _).mono ?_
    rintro e w' ⟨rfl, rfl⟩
    go_wp2_with fail
    go_ret3
    exact ⟨rfl, 0, rfl⟩
  · rw [h1] at H
    rw [h1, h2, h3, decide_eq_true (by omega : (0 : Int) ≤ (k : Int))]
    have f1 : (0 : Int) ≤ (k : Int) := by omega
    have f2 : (k : Int) ≤ (l.length : Int) := by omega
    have f3 : (k : Int) + 1 ≤ (l.length : Int) := by omega
    clear h1 h2 h3
    go_enter Try.func35, Try.ntmps35
    go_wp2_with fail
    refine (H.out _).mono ?_
    rintro e w' ⟨rfl, rfl⟩
    go_wp2_with fail
    go_quiet (fail)
    go_wp2_with fail
    go_ret3
    exact ⟨rfl, _, rfl⟩
theorem cut_one (c : UInt8) (l : Pc.B) (hl : l.length ≤ 1000000) (w : World) : Calls Try.prog 19 #[.string ⟨l.toArray⟩, .string ⟨#[c]⟩] w fun e w' => e = .returned (.tuple #[.string ⟨(Gu.bef c l).toArray⟩, .string ⟨(Gu.aft c l).toArray⟩, .bool (decide (0 ≤ Lib.indexByte l c))]) ∧ ∃ n, w' = w.drewN n := by
  have H := Lib.hid (fun w => lcut_one c l hl w)
  go_enter Try.func19, Try.ntmps19
  go_wp2_with fail
  refine (H.out _).mono ?_
  rintro e w' ⟨rfl, n, rfl⟩
  go_wp2_with fail
  go_ret3
  exact ⟨rfl, n, rfl⟩

/-- What is told, as a value. -/
def res (o : Option (Pc.B × Pc.B)) : Value := match o with
  | none => .agg #[.bool false, .string ⟨#[]⟩, .string ⟨#[]⟩]
  | some p => .agg #[.bool true, .string ⟨p.1.toArray⟩, .string ⟨p.2.toArray⟩]
end Go.Proofs.Ytpccfagbmbbpkaa
