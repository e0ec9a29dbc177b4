/-
  gourl.rooted: what is told of a rest.
-/
import Derived.Test.YtpccfagbmbbpkaaParse
namespace Go.Proofs.Ytpccfagbmbbpkaa
open Go.RowKit Go.Proofs.YtpccfagbmbbpkaaW.PrintWords

set_option maxHeartbeats 3200000 in
theorem rooted_f_n (t : Pc.B) (hl : t.length ≤ 1000000) (q1 : Lib.indexByte t 47 = -1) (q2 : Gu.bef 47 t = t) (h3 : Lib.hasPrefix (47 :: 47 :: t) [47, 47, 47] = false) (htwo : Gu.two (47 :: 47 :: t) false = true) (w : World) : Calls Try.prog 25 #[.string ⟨(47 :: 47 :: t).toArray⟩, .bool false] w fun e w' => e = .returned (res (Gu.rooted (47 :: 47 :: t) false)) ∧ Below w.heap.size w w' := by
  have H2 := Lib.hid (fun w => Try.strings_HasPrefix ⟨(47 :: 47 :: t).toArray⟩ ⟨#[47, 47]⟩ w)
  rw [show (ByteArray.mk (47 :: 47 :: t).toArray).data.toList = 47 :: 47 :: t from rfl, show (ByteArray.mk #[47, 47]).data.toList = [47, 47] from rfl, show Lib.hasPrefix (47 :: 47 :: t) [47, 47] = true by simp [Lib.hasPrefix, List.isPrefixOf]] at H2
  have H3 := Lib.hid (fun w => Try.strings_HasPrefix ⟨(47 :: 47 :: t).toArray⟩ ⟨#[47, 47, 47]⟩ w)
  rw [show (ByteArray.mk (47 :: 47 :: t).toArray).data.toList = 47 :: 47 :: t from rfl, show (ByteArray.mk #[47, 47, 47]).data.toList = [47, 47, 47] from rfl, h3] at H3
  have f1 : (2 : Int) ≤ (t.length : Int) + 1 + 1 := by omega
  have HI := Lib.hid (fun w => Try.strings_IndexByte ⟨t.toArray⟩ 47 w)
  rw [show (ByteArray.mk t.toArray).data.toList = t from rfl, show ((47 : Int).toNat.toUInt8) = 47 from rfl, q1] at HI
  have hr : Gu.rooted (47 :: 47 :: t) false = if (Gu.host t).2 then if Pc.valid [] then some ((Gu.host t).1, []) else none else none := by
    unfold Gu.rooted; rw [htwo]; simp only [if_true, List.drop_succ_cons, List.drop_zero, q2]; rw [List.drop_length]
  have HR := Lib.hid hr
  have HHO := Lib.hid (fun w => host_any t (by omega) w)
  have HVA := Lib.hid (fun w => valid_any [] (by simp) w)
  have hx1 : t.take t.length = t := List.take_length
  have hx2 : t.drop t.length = [] := List.drop_length
  have hv : Pc.valid [] = true := rfl
  clear hr q1 q2 htwo h3
  cases hok : (Gu.host t).2
  · rw [HR.out, hok]
    go_enter Try.func25, Try.ntmps25
    go_wp2_with fail
    refine (H2.out _).mono ?_
    rintro e w' ⟨rfl, rfl⟩
    go_wp2_with fail
    refine (H3.out _).mono ?_
    rintro e w' ⟨rfl, rfl⟩
    go_wp2_with fail
    refine (HI.out _).mono ?_
    rintro e w' ⟨rfl, rfl⟩
    go_wp2_with fail
    refine (HHO.out _).mono ?_
    rw [hok]
    rintro e w1 ⟨rfl, B1⟩
    have KP := blk_below (blk_new (w.alloc (.cells #[.bool false, .string ⟨#[]⟩, .string ⟨#[]⟩] 24)) (.cells #[.bool true, .string ⟨#[]⟩, .string ⟨#[]⟩] 24)) B1
    have KR := blk_below (blk_alloc (blk_new w (.cells #[.bool false, .string ⟨#[]⟩, .string ⟨#[]⟩] 24)) (.cells #[.bool true, .string ⟨#[]⟩, .string ⟨#[]⟩] 24)) B1
    have HB : Below w.heap.size w w1 := (((Below.refl _ _).alloc (Nat.le_refl _) _).alloc (by simp) _).trans (B1.mono (by simp; omega))
    have er : (w.alloc (.cells #[.bool false, .string ⟨#[]⟩, .string ⟨#[]⟩] 24)).heap.size = w.heap.size + 1 := by simp
    rw [er] at KP
    clear B1 er
    have pc0 := blk_cell KP 0
    have pf0 := blk_frozen KP 0
    have pc1 := blk_cell KP 1
    have pf1 := blk_frozen KP 1
    have pc2 := blk_cell KP 2
    have pf2 := blk_frozen KP 2
    have rc0 := blk_cell KR 0
    have rf0 := blk_frozen KR 0
    have rc1 := blk_cell KR 1
    have rf1 := blk_frozen KR 1
    have rc2 := blk_cell KR 2
    have rf2 := blk_frozen KR 2
    simp at pc0 pc1 pc2 rc0 rc1 rc2
    clear KP KR
    go_wp2_with fail
    exact bodyPost_ret (v := res none) (by first | (simp [results, Try.results25, go_sem, res, rc0, rc1, rc2]; done) | (simp [results, Try.results25, go_sem, res, rc0, rc1, rc2]; rfl)) rfl ⟨rfl, by (repeat (first | exact Below.refl _ _ | assumption | refine Below.drew ?_ | refine Below.alloc ?_ (by first | exact Nat.le_refl _ | (simp; done) | (simp; omega) | omega) _ | refine Below.setCell ?_ (by first | exact Nat.le_refl _ | (simp; done) | (simp; omega) | omega) _))⟩
  · rw [HR.out, hok, hv]
    go_enter Try.func25, Try.ntmps25
    go_wp2_with fail
    refine (H2.out _).mono ?_
    rintro e w' ⟨rfl, rfl⟩
    go_wp2_with fail
    refine (H3.out _).mono ?_
    rintro e w' ⟨rfl, rfl⟩
    go_wp2_with fail
    refine (HI.out _).mono ?_
    rintro e w' ⟨rfl, rfl⟩
    go_wp2_with fail
    refine (HHO.out _).mono ?_
    rw [hok]
    rintro e w1 ⟨rfl, B1⟩
    have KP := blk_below (blk_new (w.alloc (.cells #[.bool false, .string ⟨#[]⟩, .string ⟨#[]⟩] 24)) (.cells #[.bool true, .string ⟨#[]⟩, .string ⟨#[]⟩] 24)) B1
    have KR := blk_below (blk_alloc (blk_new w (.cells #[.bool false, .string ⟨#[]⟩, .string ⟨#[]⟩] 24)) (.cells #[.bool true, .string ⟨#[]⟩, .string ⟨#[]⟩] 24)) B1
    have HB : Below w.heap.size w w1 := (((Below.refl _ _).alloc (Nat.le_refl _) _).alloc (by simp) _).trans (B1.mono (by simp; omega))
    have er : (w.alloc (.cells #[.bool false, .string ⟨#[]⟩, .string ⟨#[]⟩] 24)).heap.size = w.heap.size + 1 := by simp
    rw [er] at KP
    clear B1 er
    have pc0 := blk_cell KP 0
    have pf0 := blk_frozen KP 0
    have pc1 := blk_cell KP 1
    have pf1 := blk_frozen KP 1
    have pc2 := blk_cell KP 2
    have pf2 := blk_frozen KP 2
    have rc0 := blk_cell KR 0
    have rf0 := blk_frozen KR 0
    have rc1 := blk_cell KR 1
    have rf1 := blk_frozen KR 1
    have rc2 := blk_cell KR 2
    have rf2 := blk_frozen KR 2
    simp at pc0 pc1 pc2 rc0 rc1 rc2
    clear KP KR
    go_wp2_with fail
    go_region
    go_wp2_with fail
    refine (HVA.out _).mono ?_
    rw [hv]
    rintro e w2 ⟨rfl, rfl⟩
    go_wp2_with fail
    exact bodyPost_ret (v := res (some ((Gu.host t).1, []))) (by first | (simp [results, Try.results25, go_sem, res, rc0, rc1, rc2]; done) | (simp [results, Try.results25, go_sem, res, rc0, rc1, rc2]; rfl)) rfl ⟨rfl, by (repeat (first | exact Below.refl _ _ | assumption | refine Below.drew ?_ | refine Below.alloc ?_ (by first | exact Nat.le_refl _ | (simp; done) | (simp; omega) | omega) _ | refine Below.setCell ?_ (by first | exact Nat.le_refl _ | (simp; done) | (simp; omega) | omega) _))⟩
set_option maxHeartbeats 3200000 in
theorem rooted_f_k (t : Pc.B) (hl : t.length ≤ 1000000) (k : Nat) (hk : k < t.length) (q1 : Lib.indexByte t 47 = k) (q2 : Gu.bef 47 t = t.take k) (h3 : Lib.hasPrefix (47 :: 47 :: t) [47, 47, 47] = false) (htwo : Gu.two (47 :: 47 :: t) false = true) (w : World) : Calls Try.prog 25 #[.string ⟨(47 :: 47 :: t).toArray⟩, .bool false] w fun e w' => e = .returned (res (Gu.rooted (47 :: 47 :: t) false)) ∧ Below w.heap.size w w' := by
  have H2 := Lib.hid (fun w => Try.strings_HasPrefix ⟨(47 :: 47 :: t).toArray⟩ ⟨#[47, 47]⟩ w)
  rw [show (ByteArray.mk (47 :: 47 :: t).toArray).data.toList = 47 :: 47 :: t from rfl, show (ByteArray.mk #[47, 47]).data.toList = [47, 47] from rfl, show Lib.hasPrefix (47 :: 47 :: t) [47, 47] = true by simp [Lib.hasPrefix, List.isPrefixOf]] at H2
  have H3 := Lib.hid (fun w => Try.strings_HasPrefix ⟨(47 :: 47 :: t).toArray⟩ ⟨#[47, 47, 47]⟩ w)
  rw [show (ByteArray.mk (47 :: 47 :: t).toArray).data.toList = 47 :: 47 :: t from rfl, show (ByteArray.mk #[47, 47, 47]).data.toList = [47, 47, 47] from rfl, h3] at H3
  have f1 : (2 : Int) ≤ (t.length : Int) + 1 + 1 := by omega
  have HI := Lib.hid (fun w => Try.strings_IndexByte ⟨t.toArray⟩ 47 w)
  rw [show (ByteArray.mk t.toArray).data.toList = t from rfl, show ((47 : Int).toNat.toUInt8) = 47 from rfl, q1] at HI
  have hr : Gu.rooted (47 :: 47 :: t) false = if (Gu.host (t.take k)).2 then if Pc.valid (t.drop k) then some ((Gu.host (t.take k)).1, (t.drop k)) else none else none := by
    unfold Gu.rooted; rw [htwo]; simp only [if_true, List.drop_succ_cons, List.drop_zero, q2]; rw [List.length_take, Nat.min_eq_left (by omega)]
  have HR := Lib.hid hr
  have HHO := Lib.hid (fun w => host_any (t.take k) (by simp; omega) w)
  have HVA := Lib.hid (fun w => valid_any (t.drop k) (by simp; omega) w)
  have f2 : (0 : Int) ≤ (k : Int) := by omega
  have f3 : (k : Int) ≤ (t.length : Int) := by omega
  clear hr q1 q2 htwo h3
  cases hok : (Gu.host (t.take k)).2
  · rw [HR.out, hok]
    go_enter Try.func25, Try.ntmps25
    go_wp2_with fail
    refine (H2.out _).mono ?_
    rintro e w' ⟨rfl, rfl⟩
    go_wp2_with fail
    refine (H3.out _).mono ?_
    rintro e w' ⟨rfl, rfl⟩
    go_wp2_with fail
    refine (HI.out _).mono ?_
    rintro e w' ⟨rfl, rfl⟩
    go_wp2_with fail
    refine (HHO.out _).mono ?_
    rw [hok]
    rintro e w1 ⟨rfl, B1⟩
    have KP := blk_below (blk_new (w.alloc (.cells #[.bool false, .string ⟨#[]⟩, .string ⟨#[]⟩] 24)) (.cells #[.bool true, .string ⟨#[]⟩, .string ⟨#[]⟩] 24)) B1
    have KR := blk_below (blk_alloc (blk_new w (.cells #[.bool false, .string ⟨#[]⟩, .string ⟨#[]⟩] 24)) (.cells #[.bool true, .string ⟨#[]⟩, .string ⟨#[]⟩] 24)) B1
    have HB : Below w.heap.size w w1 := (((Below.refl _ _).alloc (Nat.le_refl _) _).alloc (by simp) _).trans (B1.mono (by simp; omega))
    have er : (w.alloc (.cells #[.bool false, .string ⟨#[]⟩, .string ⟨#[]⟩] 24)).heap.size = w.heap.size + 1 := by simp
    rw [er] at KP
    clear B1 er
    have pc0 := blk_cell KP 0
    have pf0 := blk_frozen KP 0
    have pc1 := blk_cell KP 1
    have pf1 := blk_frozen KP 1
    have pc2 := blk_cell KP 2
    have pf2 := blk_frozen KP 2
    have rc0 := blk_cell KR 0
    have rf0 := blk_frozen KR 0
    have rc1 := blk_cell KR 1
    have rf1 := blk_frozen KR 1
    have rc2 := blk_cell KR 2
    have rf2 := blk_frozen KR 2
    simp at pc0 pc1 pc2 rc0 rc1 rc2
    clear KP KR
    go_wp2_with fail
    exact bodyPost_ret (v := res none) (by first | (simp [results, Try.results25, go_sem, res, rc0, rc1, rc2]; done) | (simp [results, Try.results25, go_sem, res, rc0, rc1, rc2]; rfl)) rfl ⟨rfl, by (repeat (first | exact Below.refl _ _ | assumption | refine Below.drew ?_ | refine Below.alloc ?_ (by first | exact Nat.le_refl _ | (simp; done) | (simp; omega) | omega) _ | refine Below.setCell ?_ (by first | exact Nat.le_refl _ | (simp; done) | (simp; omega) | omega) _))⟩
  · cases hv : Pc.valid (t.drop k)
    · rw [HR.out, hok, hv]
      go_enter Try.func25, Try.ntmps25
      go_wp2_with fail
      refine (H2.out _).mono ?_
      rintro e w' ⟨rfl, rfl⟩
      go_wp2_with fail
      refine (H3.out _).mono ?_
      rintro e w' ⟨rfl, rfl⟩
      go_wp2_with fail
      refine (HI.out _).mono ?_
      rintro e w' ⟨rfl, rfl⟩
      go_wp2_with fail
      refine (HHO.out _).mono ?_
      rw [hok]
      rintro e w1 ⟨rfl, B1⟩
      have KP := blk_below (blk_new (w.alloc (.cells #[.bool false, .string ⟨#[]⟩, .string ⟨#[]⟩] 24)) (.cells #[.bool true, .string ⟨#[]⟩, .string ⟨#[]⟩] 24)) B1
      have KR := blk_below (blk_alloc (blk_new w (.cells #[.bool false, .string ⟨#[]⟩, .string ⟨#[]⟩] 24)) (.cells #[.bool true, .string ⟨#[]⟩, .string ⟨#[]⟩] 24)) B1
      have HB : Below w.heap.size w w1 := (((Below.refl _ _).alloc (Nat.le_refl _) _).alloc (by simp) _).trans (B1.mono (by simp; omega))
      have er : (w.alloc (.cells #[.bool false, .string ⟨#[]⟩, .string ⟨#[]⟩] 24)).heap.size = w.heap.size + 1 := by simp
      rw [er] at KP
      clear B1 er
      have pc0 := blk_cell KP 0
      have pf0 := blk_frozen KP 0
      have pc1 := blk_cell KP 1
      have pf1 := blk_frozen KP 1
      have pc2 := blk_cell KP 2
      have pf2 := blk_frozen KP 2
      have rc0 := blk_cell KR 0
      have rf0 := blk_frozen KR 0
      have rc1 := blk_cell KR 1
      have rf1 := blk_frozen KR 1
      have rc2 := blk_cell KR 2
      have rf2 := blk_frozen KR 2
      simp at pc0 pc1 pc2 rc0 rc1 rc2
      clear KP KR
      go_wp2_with fail
      go_region
      go_wp2_with fail
      refine (HVA.out _).mono ?_
      rw [hv]
      rintro e w2 ⟨rfl, rfl⟩
      go_wp2_with fail
      exact bodyPost_ret (v := res none) (by first | (simp [results, Try.results25, go_sem, res, rc0, rc1, rc2]; done) | (simp [results, Try.results25, go_sem, res, rc0, rc1, rc2]; rfl)) rfl ⟨rfl, by (repeat (first | exact Below.refl _ _ | assumption | refine Below.drew ?_ | refine Below.alloc ?_ (by first | exact Nat.le_refl _ | (simp; done) | (simp; omega) | omega) _ | refine Below.setCell ?_ (by first | exact Nat.le_refl _ | (simp; done) | (simp; omega) | omega) _))⟩
    · rw [HR.out, hok, hv]
      go_enter Try.func25, Try.ntmps25
      go_wp2_with fail
      refine (H2.out _).mono ?_
      rintro e w' ⟨rfl, rfl⟩
      go_wp2_with fail
      refine (H3.out _).mono ?_
      rintro e w' ⟨rfl, rfl⟩
      go_wp2_with fail
      refine (HI.out _).mono ?_
      rintro e w' ⟨rfl, rfl⟩
      go_wp2_with fail
      refine (HHO.out _).mono ?_
      rw [hok]
      rintro e w1 ⟨rfl, B1⟩
      have KP := blk_below (blk_new (w.alloc (.cells #[.bool false, .string ⟨#[]⟩, .string ⟨#[]⟩] 24)) (.cells #[.bool true, .string ⟨#[]⟩, .string ⟨#[]⟩] 24)) B1
      have KR := blk_below (blk_alloc (blk_new w (.cells #[.bool false, .string ⟨#[]⟩, .string ⟨#[]⟩] 24)) (.cells #[.bool true, .string ⟨#[]⟩, .string ⟨#[]⟩] 24)) B1
      have HB : Below w.heap.size w w1 := (((Below.refl _ _).alloc (Nat.le_refl _) _).alloc (by simp) _).trans (B1.mono (by simp; omega))
      have er : (w.alloc (.cells #[.bool false, .string ⟨#[]⟩, .string ⟨#[]⟩] 24)).heap.size = w.heap.size + 1 := by simp
      rw [er] at KP
      clear B1 er
      have pc0 := blk_cell KP 0
      have pf0 := blk_frozen KP 0
      have pc1 := blk_cell KP 1
      have pf1 := blk_frozen KP 1
      have pc2 := blk_cell KP 2
      have pf2 := blk_frozen KP 2
      have rc0 := blk_cell KR 0
      have rf0 := blk_frozen KR 0
      have rc1 := blk_cell KR 1
      have rf1 := blk_frozen KR 1
      have rc2 := blk_cell KR 2
      have rf2 := blk_frozen KR 2
      simp at pc0 pc1 pc2 rc0 rc1 rc2
      clear KP KR
      go_wp2_with fail
      go_region
      go_wp2_with fail
      refine (HVA.out _).mono ?_
      rw [hv]
      rintro e w2 ⟨rfl, rfl⟩
      go_wp2_with fail
      exact bodyPost_ret (v := res (some ((Gu.host (t.take k)).1, t.drop k))) (by first | (simp [results, Try.results25, go_sem, res, rc0, rc1, rc2]; done) | (simp [results, Try.results25, go_sem, res, rc0, rc1, rc2]; rfl)) rfl ⟨rfl, by (repeat (first | exact Below.refl _ _ | assumption | refine Below.drew ?_ | refine Below.alloc ?_ (by first | exact Nat.le_refl _ | (simp; done) | (simp; omega) | omega) _ | refine Below.setCell ?_ (by first | exact Nat.le_refl _ | (simp; done) | (simp; omega) | omega) _))⟩
set_option maxHeartbeats 3200000 in
theorem rooted_t_n (t : Pc.B) (hl : t.length ≤ 1000000) (q1 : Lib.indexByte t 47 = -1) (q2 : Gu.bef 47 t = t) (htwo : Gu.two (47 :: 47 :: t) true = true) (w : World) : Calls Try.prog 25 #[.string ⟨(47 :: 47 :: t).toArray⟩, .bool true] w fun e w' => e = .returned (res (Gu.rooted (47 :: 47 :: t) true)) ∧ Below w.heap.size w w' := by
  have H2 := Lib.hid (fun w => Try.strings_HasPrefix ⟨(47 :: 47 :: t).toArray⟩ ⟨#[47, 47]⟩ w)
  rw [show (ByteArray.mk (47 :: 47 :: t).toArray).data.toList = 47 :: 47 :: t from rfl, show (ByteArray.mk #[47, 47]).data.toList = [47, 47] from rfl, show Lib.hasPrefix (47 :: 47 :: t) [47, 47] = true by simp [Lib.hasPrefix, List.isPrefixOf]] at H2
  have f1 : (2 : Int) ≤ (t.length : Int) + 1 + 1 := by omega
  have HI := Lib.hid (fun w => Try.strings_IndexByte ⟨t.toArray⟩ 47 w)
  rw [show (ByteArray.mk t.toArray).data.toList = t from rfl, show ((47 : Int).toNat.toUInt8) = 47 from rfl, q1] at HI
  have hr : Gu.rooted (47 :: 47 :: t) true = if (Gu.host t).2 then if Pc.valid [] then some ((Gu.host t).1, []) else none else none := by
    unfold Gu.rooted; rw [htwo]; simp only [if_true, List.drop_succ_cons, List.drop_zero, q2]; rw [List.drop_length]
  have HR := Lib.hid hr
  have HHO := Lib.hid (fun w => host_any t (by omega) w)
  have HVA := Lib.hid (fun w => valid_any [] (by simp) w)
  have hx1 : t.take t.length = t := List.take_length
  have hx2 : t.drop t.length = [] := List.drop_length
  have hv : Pc.valid [] = true := rfl
  clear hr q1 q2 htwo
  cases hok : (Gu.host t).2
  · rw [HR.out, hok]
    go_enter Try.func25, Try.ntmps25
    go_wp2_with fail
    refine (H2.out _).mono ?_
    rintro e w' ⟨rfl, rfl⟩
    go_wp2_with fail
    refine (HI.out _).mono ?_
    rintro e w' ⟨rfl, rfl⟩
    go_wp2_with fail
    refine (HHO.out _).mono ?_
    rw [hok]
    rintro e w1 ⟨rfl, B1⟩
    have KP := blk_below (blk_new (w.alloc (.cells #[.bool false, .string ⟨#[]⟩, .string ⟨#[]⟩] 24)) (.cells #[.bool true, .string ⟨#[]⟩, .string ⟨#[]⟩] 24)) B1
    have KR := blk_below (blk_alloc (blk_new w (.cells #[.bool false, .string ⟨#[]⟩, .string ⟨#[]⟩] 24)) (.cells #[.bool true, .string ⟨#[]⟩, .string ⟨#[]⟩] 24)) B1
    have HB : Below w.heap.size w w1 := (((Below.refl _ _).alloc (Nat.le_refl _) _).alloc (by simp) _).trans (B1.mono (by simp; omega))
    have er : (w.alloc (.cells #[.bool false, .string ⟨#[]⟩, .string ⟨#[]⟩] 24)).heap.size = w.heap.size + 1 := by simp
    rw [er] at KP
    clear B1 er
    have pc0 := blk_cell KP 0
    have pf0 := blk_frozen KP 0
    have pc1 := blk_cell KP 1
    have pf1 := blk_frozen KP 1
    have pc2 := blk_cell KP 2
    have pf2 := blk_frozen KP 2
    have rc0 := blk_cell KR 0
    have rf0 := blk_frozen KR 0
    have rc1 := blk_cell KR 1
    have rf1 := blk_frozen KR 1
    have rc2 := blk_cell KR 2
    have rf2 := blk_frozen KR 2
    simp at pc0 pc1 pc2 rc0 rc1 rc2
    clear KP KR
    go_wp2_with fail
    exact bodyPost_ret (v := res none) (by first | (simp [results, Try.results25, go_sem, res, rc0, rc1, rc2]; done) | (simp [results, Try.results25, go_sem, res, rc0, rc1, rc2]; rfl)) rfl ⟨rfl, by (repeat (first | exact Below.refl _ _ | assumption | refine Below.drew ?_ | refine Below.alloc ?_ (by first | exact Nat.le_refl _ | (simp; done) | (simp; omega) | omega) _ | refine Below.setCell ?_ (by first | exact Nat.le_refl _ | (simp; done) | (simp; omega) | omega) _))⟩
  · rw [HR.out, hok, hv]
    go_enter Try.func25, Try.ntmps25
    go_wp2_with fail
    refine (H2.out _).mono ?_
    rintro e w' ⟨rfl, rfl⟩
    go_wp2_with fail
    refine (HI.out _).mono ?_
    rintro e w' ⟨rfl, rfl⟩
    go_wp2_with fail
    refine (HHO.out _).mono ?_
    rw [hok]
    rintro e w1 ⟨rfl, B1⟩
    have KP := blk_below (blk_new (w.alloc (.cells #[.bool false, .string ⟨#[]⟩, .string ⟨#[]⟩] 24)) (.cells #[.bool true, .string ⟨#[]⟩, .string ⟨#[]⟩] 24)) B1
    have KR := blk_below (blk_alloc (blk_new w (.cells #[.bool false, .string ⟨#[]⟩, .string ⟨#[]⟩] 24)) (.cells #[.bool true, .string ⟨#[]⟩, .string ⟨#[]⟩] 24)) B1
    have HB : Below w.heap.size w w1 := (((Below.refl _ _).alloc (Nat.le_refl _) _).alloc (by simp) _).trans (B1.mono (by simp; omega))
    have er : (w.alloc (.cells #[.bool false, .string ⟨#[]⟩, .string ⟨#[]⟩] 24)).heap.size = w.heap.size + 1 := by simp
    rw [er] at KP
    clear B1 er
    have pc0 := blk_cell KP 0
    have pf0 := blk_frozen KP 0
    have pc1 := blk_cell KP 1
    have pf1 := blk_frozen KP 1
    have pc2 := blk_cell KP 2
    have pf2 := blk_frozen KP 2
    have rc0 := blk_cell KR 0
    have rf0 := blk_frozen KR 0
    have rc1 := blk_cell KR 1
    have rf1 := blk_frozen KR 1
    have rc2 := blk_cell KR 2
    have rf2 := blk_frozen KR 2
    simp at pc0 pc1 pc2 rc0 rc1 rc2
    clear KP KR
    go_wp2_with fail
    go_region
    go_wp2_with fail
    refine (HVA.out _).mono ?_
    rw [hv]
    rintro e w2 ⟨rfl, rfl⟩
    go_wp2_with fail
    exact bodyPost_ret (v := res (some ((Gu.host t).1, []))) (by first | (simp [results, Try.results25, go_sem, res, rc0, rc1, rc2]; done) | (simp [results, Try.results25, go_sem, res, rc0, rc1, rc2]; rfl)) rfl ⟨rfl, by (repeat (first | exact Below.refl _ _ | assumption | refine Below.drew ?_ | refine Below.alloc ?_ (by first | exact Nat.le_refl _ | (simp; done) | (simp; omega) | omega) _ | refine Below.setCell ?_ (by first | exact Nat.le_refl _ | (simp; done) | (simp; omega) | omega) _))⟩
set_option maxHeartbeats 3200000 in
theorem rooted_t_k (t : Pc.B) (hl : t.length ≤ 1000000) (k : Nat) (hk : k < t.length) (q1 : Lib.indexByte t 47 = k) (q2 : Gu.bef 47 t = t.take k) (htwo : Gu.two (47 :: 47 :: t) true = true) (w : World) : Calls Try.prog 25 #[.string ⟨(47 :: 47 :: t).toArray⟩, .bool true] w fun e w' => e = .returned (res (Gu.rooted (47 :: 47 :: t) true)) ∧ Below w.heap.size w w' := by
  have H2 := Lib.hid (fun w => Try.strings_HasPrefix ⟨(47 :: 47 :: t).toArray⟩ ⟨#[47, 47]⟩ w)
  rw [show (ByteArray.mk (47 :: 47 :: t).toArray).data.toList = 47 :: 47 :: t from rfl, show (ByteArray.mk #[47, 47]).data.toList = [47, 47] from rfl, show Lib.hasPrefix (47 :: 47 :: t) [47, 47] = true by simp [Lib.hasPrefix, List.isPrefixOf]] at H2
  have f1 : (2 : Int) ≤ (t.length : Int) + 1 + 1 := by omega
  have HI := Lib.hid (fun w => Try.strings_IndexByte ⟨t.toArray⟩ 47 w)
  rw [show (ByteArray.mk t.toArray).data.toList = t from rfl, show ((47 : Int).toNat.toUInt8) = 47 from rfl, q1] at HI
  have hr : Gu.rooted (47 :: 47 :: t) true = if (Gu.host (t.take k)).2 then if Pc.valid (t.drop k) then some ((Gu.host (t.take k)).1, (t.drop k)) else none else none := by
    unfold Gu.rooted; rw [htwo]; simp only [if_true, List.drop_succ_cons, List.drop_zero, q2]; rw [List.length_take, Nat.min_eq_left (by omega)]
  have HR := Lib.hid hr
  have HHO := Lib.hid (fun w => host_any (t.take k) (by simp; omega) w)
  have HVA := Lib.hid (fun w => valid_any (t.drop k) (by simp; omega) w)
  have f2 : (0 : Int) ≤ (k : Int) := by omega
  have f3 : (k : Int) ≤ (t.length : Int) := by omega
  clear hr q1 q2 htwo
  cases hok : (Gu.host (t.take k)).2
  · rw [HR.out, hok]
    go_enter Try.func25, Try.ntmps25
    go_wp2_with fail
    refine (H2.out _).mono ?_
    rintro e w' ⟨rfl, rfl⟩
    go_wp2_with fail
    refine (HI.out _).mono ?_
    rintro e w' ⟨rfl, rfl⟩
    go_wp2_with fail
    refine (HHO.out _).mono ?_
    rw [hok]
    rintro e w1 ⟨rfl, B1⟩
    have KP := blk_below (blk_new (w.alloc (.cells #[.bool false, .string ⟨#[]⟩, .string ⟨#[]⟩] 24)) (.cells #[.bool true, .string ⟨#[]⟩, .string ⟨#[]⟩] 24)) B1
    have KR := blk_below (blk_alloc (blk_new w (.cells #[.bool false, .string ⟨#[]⟩, .string ⟨#[]⟩] 24)) (.cells #[.bool true, .string ⟨#[]⟩, .string ⟨#[]⟩] 24)) B1
    have HB : Below w.heap.size w w1 := (((Below.refl _ _).alloc (Nat.le_refl _) _).alloc (by simp) _).trans (B1.mono (by simp; omega))
    have er : (w.alloc (.cells #[.bool false, .string ⟨#[]⟩, .string ⟨#[]⟩] 24)).heap.size = w.heap.size + 1 := by simp
    rw [er] at KP
    clear B1 er
    have pc0 := blk_cell KP 0
    have pf0 := blk_frozen KP 0
    have pc1 := blk_cell KP 1
    have pf1 := blk_frozen KP 1
    have pc2 := blk_cell KP 2
    have pf2 := blk_frozen KP 2
    have rc0 := blk_cell KR 0
    have rf0 := blk_frozen KR 0
    have rc1 := blk_cell KR 1
    have rf1 := blk_frozen KR 1
    have rc2 := blk_cell KR 2
    have rf2 := blk_frozen KR 2
    simp at pc0 pc1 pc2 rc0 rc1 rc2
    clear KP KR
    go_wp2_with fail
    exact bodyPost_ret (v := res none) (by first | (simp [results, Try.results25, go_sem, res, rc0, rc1, rc2]; done) | (simp [results, Try.results25, go_sem, res, rc0, rc1, rc2]; rfl)) rfl ⟨rfl, by (repeat (first | exact Below.refl _ _ | assumption | refine Below.drew ?_ | refine Below.alloc ?_ (by first | exact Nat.le_refl _ | (simp; done) | (simp; omega) | omega) _ | refine Below.setCell ?_ (by first | exact Nat.le_refl _ | (simp; done) | (simp; omega) | omega) _))⟩
  · cases hv : Pc.valid (t.drop k)
    · rw [HR.out, hok, hv]
      go_enter Try.func25, Try.ntmps25
      go_wp2_with fail
      refine (H2.out _).mono ?_
      rintro e w' ⟨rfl, rfl⟩
      go_wp2_with fail
      refine (HI.out _).mono ?_
      rintro e w' ⟨rfl, rfl⟩
      go_wp2_with fail
      refine (HHO.out _).mono ?_
      rw [hok]
      rintro e w1 ⟨rfl, B1⟩
      have KP := blk_below (blk_new (w.alloc (.cells #[.bool false, .string ⟨#[]⟩, .string ⟨#[]⟩] 24)) (.cells #[.bool true, .string ⟨#[]⟩, .string ⟨#[]⟩] 24)) B1
      have KR := blk_below (blk_alloc (blk_new w (.cells #[.bool false, .string ⟨#[]⟩, .string ⟨#[]⟩] 24)) (.cells #[.bool true, .string ⟨#[]⟩, .string ⟨#[]⟩] 24)) B1
      have HB : Below w.heap.size w w1 := (((Below.refl _ _).alloc (Nat.le_refl _) _).alloc (by simp) _).trans (B1.mono (by simp; omega))
      have er : (w.alloc (.cells #[.bool false, .string ⟨#[]⟩, .string ⟨#[]⟩] 24)).heap.size = w.heap.size + 1 := by simp
      rw [er] at KP
      clear B1 er
      have pc0 := blk_cell KP 0
      have pf0 := blk_frozen KP 0
      have pc1 := blk_cell KP 1
      have pf1 := blk_frozen KP 1
      have pc2 := blk_cell KP 2
      have pf2 := blk_frozen KP 2
      have rc0 := blk_cell KR 0
      have rf0 := blk_frozen KR 0
      have rc1 := blk_cell KR 1
      have rf1 := blk_frozen KR 1
      have rc2 := blk_cell KR 2
      have rf2 := blk_frozen KR 2
      simp at pc0 pc1 pc2 rc0 rc1 rc2
      clear KP KR
      go_wp2_with fail
      go_region
      go_wp2_with fail
      refine (HVA.out _).mono ?_
      rw [hv]
      rintro e w2 ⟨rfl, rfl⟩
      go_wp2_with fail
      exact bodyPost_ret (v := res none) (by first | (simp [results, Try.results25, go_sem, res, rc0, rc1, rc2]; done) | (simp [results, Try.results25, go_sem, res, rc0, rc1, rc2]; rfl)) rfl ⟨rfl, by (repeat (first | exact Below.refl _ _ | assumption | refine Below.drew ?_ | refine Below.alloc ?_ (by first | exact Nat.le_refl _ | (simp; done) | (simp; omega) | omega) _ | refine Below.setCell ?_ (by first | exact Nat.le_refl _ | (simp; done) | (simp; omega) | omega) _))⟩
    · rw [HR.out, hok, hv]
      go_enter Try.func25, Try.ntmps25
      go_wp2_with fail
      refine (H2.out _).mono ?_
      rintro e w' ⟨rfl, rfl⟩
      go_wp2_with fail
      refine (HI.out _).mono ?_
      rintro e w' ⟨rfl, rfl⟩
      go_wp2_with fail
      refine (HHO.out _).mono ?_
      rw [hok]
      rintro e w1 ⟨rfl, B1⟩
      have KP := blk_below (blk_new (w.alloc (.cells #[.bool false, .string ⟨#[]⟩, .string ⟨#[]⟩] 24)) (.cells #[.bool true, .string ⟨#[]⟩, .string ⟨#[]⟩] 24)) B1
      have KR := blk_below (blk_alloc (blk_new w (.cells #[.bool false, .string ⟨#[]⟩, .string ⟨#[]⟩] 24)) (.cells #[.bool true, .string ⟨#[]⟩, .string ⟨#[]⟩] 24)) B1
      have HB : Below w.heap.size w w1 := (((Below.refl _ _).alloc (Nat.le_refl _) _).alloc (by simp) _).trans (B1.mono (by simp; omega))
      have er : (w.alloc (.cells #[.bool false, .string ⟨#[]⟩, .string ⟨#[]⟩] 24)).heap.size = w.heap.size + 1 := by simp
      rw [er] at KP
      clear B1 er
      have pc0 := blk_cell KP 0
      have pf0 := blk_frozen KP 0
      have pc1 := blk_cell KP 1
      have pf1 := blk_frozen KP 1
      have pc2 := blk_cell KP 2
      have pf2 := blk_frozen KP 2
      have rc0 := blk_cell KR 0
      have rf0 := blk_frozen KR 0
      have rc1 := blk_cell KR 1
      have rf1 := blk_frozen KR 1
      have rc2 := blk_cell KR 2
      have rf2 := blk_frozen KR 2
      simp at pc0 pc1 pc2 rc0 rc1 rc2
      clear KP KR
      go_wp2_with fail
      go_region
      go_wp2_with fail
      refine (HVA.out _).mono ?_
      rw [hv]
      rintro e w2 ⟨rfl, rfl⟩
      go_wp2_with fail
      exact bodyPost_ret (v := res (some ((Gu.host (t.take k)).1, t.drop k))) (by first | (simp [results, Try.results25, go_sem, res, rc0, rc1, rc2]; done) | (simp [results, Try.results25, go_sem, res, rc0, rc1, rc2]; rfl)) rfl ⟨rfl, by (repeat (first | exact Below.refl _ _ | assumption | refine Below.drew ?_ | refine Below.alloc ?_ (by first | exact Nat.le_refl _ | (simp; done) | (simp; omega) | omega) _ | refine Below.setCell ?_ (by first | exact Nat.le_refl _ | (simp; done) | (simp; omega) | omega) _))⟩

theorem pre2 (l : Pc.B) (h : Lib.hasPrefix l [47, 47] = true) : ∃ t, l = 47 :: 47 :: t := by
  unfold Lib.hasPrefix at h
  rcases l with _ | ⟨a, _ | ⟨b, t⟩⟩
  · simp at h
  · simp at h
  · simp [List.isPrefixOf] at h
    obtain ⟨rfl, rfl⟩ := h
    exact ⟨t, rfl⟩
set_option maxHeartbeats 3200000 in
theorem rooted_no (l : Pc.B) (hl : l.length ≤ 1000000) (s : Bool) (htwo : Gu.two l s = false) (w : World) : Calls Try.prog 25 #[.string ⟨l.toArray⟩, .bool s] w fun e w' => e = .returned (res (Gu.rooted l s)) ∧ Below w.heap.size w w' := by
  have H2 := Lib.hid (fun w => Try.strings_HasPrefix ⟨l.toArray⟩ ⟨#[47, 47]⟩ w)
  have H3 := Lib.hid (fun w => Try.strings_HasPrefix ⟨l.toArray⟩ ⟨#[47, 47, 47]⟩ w)
  rw [show (ByteArray.mk l.toArray).data.toList = l from rfl, show (ByteArray.mk #[47, 47]).data.toList = [47, 47] from rfl] at H2
  rw [show (ByteArray.mk l.toArray).data.toList = l from rfl, show (ByteArray.mk #[47, 47, 47]).data.toList = [47, 47, 47] from rfl] at H3
  have hg : Gu.rooted l s = if Pc.valid l then some ([], l) else none := by unfold Gu.rooted; rw [htwo]; rfl
  have HG := Lib.hid hg
  have hc : Lib.hasPrefix l [47, 47] = false ∨ (Lib.hasPrefix l [47, 47] = true ∧ s = false ∧ Lib.hasPrefix l [47, 47, 47] = true) := by
    unfold Gu.two at htwo
    unfold Lib.hasPrefix
    cases h : List.isPrefixOf [47, 47] l
    · exact Or.inl rfl
    · right
      rw [h] at htwo
      cases s
      · simpa using htwo
      · simp at htwo
  clear hg htwo
  rcases hc with h2 | ⟨h2, rfl, h3⟩
  · rw [h2] at H2
    clear h2
    cases hv : Pc.valid l
    all_goals
      rw [HG.out, hv]
      go_enter Try.func25, Try.ntmps25
      go_wp2_with fail
      refine (H2.out _).mono ?_
      rintro e w' ⟨rfl, rfl⟩
      go_wp2_with fail
      refine (valid_any l (by omega) _).mono ?_
      rw [hv]
      rintro e w' ⟨rfl, rfl⟩
      go_wp2_with fail
    · exact bodyPost_ret (v := res none) (by simp [results, Try.results25, go_sem, res]) rfl ⟨rfl, by (repeat (first | exact Below.refl _ _ | assumption | refine Below.drew ?_ | refine Below.alloc ?_ (by first | exact Nat.le_refl _ | (simp; done) | (simp; omega) | omega) _ | refine Below.setCell ?_ (by first | exact Nat.le_refl _ | (simp; done) | (simp; omega) | omega) _))⟩
    · exact bodyPost_ret (v := res (some ([], l))) (by simp [results, Try.results25, go_sem, res]) rfl ⟨rfl, by (repeat (first | exact Below.refl _ _ | assumption | refine Below.drew ?_ | refine Below.alloc ?_ (by first | exact Nat.le_refl _ | (simp; done) | (simp; omega) | omega) _ | refine Below.setCell ?_ (by first | exact Nat.le_refl _ | (simp; done) | (simp; omega) | omega) _))⟩
  · rw [h2] at H2
    rw [h3] at H3
    clear h2 h3
    cases hv : Pc.valid l
    all_goals
      rw [HG.out, hv]
      go_enter Try.func25, Try.ntmps25
      go_wp2_with fail
      refine (H2.out _).mono ?_
      rintro e w' ⟨rfl, rfl⟩
      go_wp2_with fail
      refine (H3.out _).mono ?_
      rintro e w' ⟨rfl, rfl⟩
      go_wp2_with fail
      refine (valid_any l (by omega) _).mono ?_
      rw [hv]
      rintro e w' ⟨rfl, rfl⟩
      go_wp2_with fail
    · exact bodyPost_ret (v := res none) (by simp [results, Try.results25, go_sem, res]) rfl ⟨rfl, by (repeat (first | exact Below.refl _ _ | assumption | refine Below.drew ?_ | refine Below.alloc ?_ (by first | exact Nat.le_refl _ | (simp; done) | (simp; omega) | omega) _ | refine Below.setCell ?_ (by first | exact Nat.le_refl _ | (simp; done) | (simp; omega) | omega) _))⟩
    · exact bodyPost_ret (v := res (some ([], l))) (by simp [results, Try.results25, go_sem, res]) rfl ⟨rfl, by (repeat (first | exact Below.refl _ _ | assumption | refine Below.drew ?_ | refine Below.alloc ?_ (by first | exact Nat.le_refl _ | (simp; done) | (simp; omega) | omega) _ | refine Below.setCell ?_ (by first | exact Nat.le_refl _ | (simp; done) | (simp; omega) | omega) _))⟩
theorem rooted_any (l : Pc.B) (hl : l.length ≤ 1000000) (s : Bool) (w : World) : Calls Try.prog 25 #[.string ⟨l.toArray⟩, .bool s] w fun e w' => e = .returned (res (Gu.rooted l s)) ∧ Below w.heap.size w w' := by
  cases htwo : Gu.two l s
  · exact rooted_no l hl s htwo w
  · have h2 : Lib.hasPrefix l [47, 47] = true := by
      unfold Gu.two at htwo
      unfold Lib.hasPrefix
      revert htwo
      cases List.isPrefixOf [47, 47] l <;> simp
    obtain ⟨t, rfl⟩ := pre2 l h2
    have hl' : t.length ≤ 1000000 := by simp at hl; omega
    cases s
    · have h3 : Lib.hasPrefix (47 :: 47 :: t) [47, 47, 47] = false := by
        unfold Gu.two at htwo
        unfold Lib.hasPrefix
        revert htwo
        cases List.isPrefixOf [47, 47, 47] (47 :: 47 :: t) <;> simp
      rcases idx_cases 47 t with ⟨q1, q2, -⟩ | ⟨k, hk, q1, q2, -⟩
      · exact rooted_f_n t hl' q1 q2 h3 htwo w
      · exact rooted_f_k t hl' k hk q1 q2 h3 htwo w
    · rcases idx_cases 47 t with ⟨q1, q2, -⟩ | ⟨k, hk, q1, q2, -⟩
      · exact rooted_t_n t hl' q1 q2 htwo w
      · exact rooted_t_k t hl' k hk q1 q2 htwo w
end Go.Proofs.Ytpccfagbmbbpkaa
