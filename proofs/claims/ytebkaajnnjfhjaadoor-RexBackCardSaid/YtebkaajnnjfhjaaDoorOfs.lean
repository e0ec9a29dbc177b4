/-
  octets.Of and All: walked.
-/
import Derived.Test.YtebkaajnnjfhjaaDoorOcs
import Derived.Test.YtebkaajnnjfhjaaDoorWWords
namespace Go.Proofs.YtebkaajnnjfhjaaDoor
set_option linter.unusedVariables false
set_option linter.unusedSimpArgs false
open Go.RowKit Go.Proofs.YtebkaajnnjfhjaaDoorW.PrintWords

theorem bthen' {w w1 w2 : World} (h1 : Below w.heap.size w w1) (h2 : Below w1.heap.size w1 w2) : Below w.heap.size w w2 := h1.trans (h2.mono h1.size)
theorem ofTake_succ (l : List UInt8) (k : Nat) (h : k < l.length) : W4.ofList (l.take (k + 1)) = (W4.ofList (l.take k)).put l[k].toNat := by
  unfold W4.ofList
  rw [List.take_succ_eq_append_getElem h, List.foldl_append]; rfl
def BAt (w : World) (g : Nat) (l : List UInt8) : Prop := ∀ j (h : j < l.length), w.cell? ⟨g, j, none⟩ = some (.int .u8 (l[j]'h).toNat)
set_option maxHeartbeats 800000 in
theorem of_any (g cap : Nat) (l : List UInt8) (hl : l.length ≤ 1000000) (w : World) (hg : g < w.heap.size) (K : BAt w g l) : Calls Tryd.prog 8 #[.slice (some ⟨g, 0, none⟩) l.length cap] w fun e w' =>
    e = .returned (.agg #[.int .u64 (W4.ofList l).a, .int .u64 (W4.ofList l).b, .int .u64 (W4.ofList l).c, .int .u64 (W4.ofList l).d]) ∧ Below w.heap.size w w' := by
  have KK := Lib.hid K
  clear K
  go_enter Tryd.func8, Tryd.ntmps8
  go_wp2
  go_loopw [10] (fun i wr => ∃ k : Nat, k ≤ l.length ∧ i = .int .i64 k ∧ wr = (w.alloc (.cells #[.int .u64 0, .int .u64 0, .int .u64 0, .int .u64 0] 24)).alloc (.cells #[.int .u64 (W4.ofList (l.take k)).a, .int .u64 (W4.ofList (l.take k)).b, .int .u64 (W4.ofList (l.take k)).c, .int .u64 (W4.ofList (l.take k)).d] 24)) (fun i _ => l.length - (intOf i).toNat)
  case atStart => exact ⟨0, by omega, rfl, rfl⟩
  case round =>
    obtain ⟨k, hk, rfl, rfl⟩ := hrel
    by_cases hlt : k < l.length
    · have hcell := KK.out k hlt
      have hb := l[k].toNat_lt
      have hc : l[k].toNat / 64 = 0 ∨ l[k].toNat / 64 = 1 ∨ l[k].toNat / 64 = 2 ∨ l[k].toNat / 64 = 3 := by omega
      have hO := W4.ok_ofList (l.take k)
      have hp := W4.pow_lt l[k].toNat
      have o0 := Lib.hid (u64_or_nat _ _ hO.1 hp)
      have o1 := Lib.hid (u64_or_nat _ _ hO.2.1 hp)
      have o2 := Lib.hid (u64_or_nat _ _ hO.2.2.1 hp)
      have o3 := Lib.hid (u64_or_nat _ _ hO.2.2.2 hp)
      have HT := Lib.hid (ofTake_succ l k hlt)
      clear hO hp
      rcases hc with hc | hc | hc | hc
      all_goals
        have HQ := Lib.hid hc
        clear hc
        go_wp2_with (go_at_call 24; refine (bit_at l[k].toNat _ (by omega) HQ.out _).mono ?_; rintro e w' ⟨rfl, rfl⟩)
        go_roundw
        case rel =>
          refine ⟨k + 1, by omega, by go_num, ?_⟩
          rw [HT.out]
          first | rw [W4.put_0 _ _ HQ.out, ← o0.out] | rw [W4.put_1 _ _ HQ.out, ← o1.out] | rw [W4.put_2 _ _ HQ.out, ← o2.out] | rw [W4.put_3 _ _ HQ.out, ← o3.out]
        case measure => simp [intOf]; omega
    · have hT := Lib.hid (List.take_of_length_le (show l.length ≤ k by omega))
      go_wp2
      simp only [hT.out]
      exact bodyPost_ret (v := .agg #[.int .u64 (W4.ofList l).a, .int .u64 (W4.ofList l).b, .int .u64 (W4.ofList l).c, .int .u64 (W4.ofList l).d]) (by simp [results, Tryd.results8, go_sem]) rfl ⟨rfl, by (repeat (first | exact Below.refl _ _ | assumption | refine Below.drew ?_ | refine Below.alloc ?_ (by first | exact Nat.le_refl _ | (simp; done) | (simp; omega) | omega) _ | refine Below.setCell ?_ (by first | exact Nat.le_refl _ | (simp; done) | (simp; omega) | omega) _))⟩
def allW : W4 := W4.zero.not
theorem allW_has : ∀ c : Fin 256, allW.has c.val = true := by decide +kernel
set_option maxHeartbeats 800000 in
theorem all_any (w : World) : Calls Tryd.prog 53 #[] w fun e w' => e = .returned (.agg #[.int .u64 allW.a, .int .u64 allW.b, .int .u64 allW.c, .int .u64 allW.d]) ∧ Below w.heap.size w w' := by
  go_enter Tryd.func53, Tryd.ntmps53
  go_wp2_with fail
  refine (not_any W4.zero W4.ok_zero _).mono ?_
  rintro e w1 ⟨rfl, B1⟩
  have K := blk_below (blk_new w _) B1
  have HB : Below w.heap.size w w1 := ((Below.refl _ _).alloc (Nat.le_refl _) _).trans (B1.mono (by simp))
  clear B1
  have c0 := blk_cell K 0
  have c1 := blk_cell K 1
  have c2 := blk_cell K 2
  have c3 := blk_cell K 3
  have f0 := blk_frozen K 0
  have f1 := blk_frozen K 1
  have f2 := blk_frozen K 2
  have f3 := blk_frozen K 3
  simp at c0 c1 c2 c3
  clear K
  go_wp2_with fail
  exact bodyPost_ret (v := .agg #[.int .u64 allW.a, .int .u64 allW.b, .int .u64 allW.c, .int .u64 allW.d]) (by simp [results, Tryd.results53, go_sem, allW, c0, c1, c2, c3]) rfl ⟨rfl, by (repeat (first | exact Below.refl _ _ | assumption | refine Below.drew ?_ | refine Below.alloc ?_ (by first | exact Nat.le_refl _ | (simp; done) | (simp; omega) | omega) _ | refine Below.setCell ?_ (by first | exact Nat.le_refl _ | (simp; done) | (simp; omega) | omega) _))⟩

end Go.Proofs.YtebkaajnnjfhjaaDoor
