/-
  internal/strconv.fmtEFG at any digits, without an exponent, none ahead of the point but zero excepted: walked.
-/
import Derived.Test.YtedllapajgcfeaaGreatDoorWe
namespace Go.Proofs.YtedllapajgcfeaaGreatDoor
set_option linter.unusedVariables false
set_option linter.unusedSimpArgs false
open Go.RowKit Go.Proofs.YtedllapajgcfeaaGreatDoorW.PrintWords

set_option maxRecDepth 100000 in
set_option maxHeartbeats 6400000 in
theorem efg_C (neg : Bool) (v : Value) (base g : Nat) (ds : List Int) (k z : Nat) (w0 w : World) (H : St base w0 g ds v w []) (hk : ds.length = k) (hk1 : 1 ≤ k) (hz : k + z ≤ 6) :
    Calls Tryz.prog 60 #[v, .bool neg, .slice (some ⟨g, 0, none⟩) 32 32, .int .i64 ((k : Int) + z), .int .i64 k, .int .i64 k, .int .u8 103, .bool true] w fun e w' => ∃ v', e = .returned v' ∧ St base w0 g ds v' w' (txC neg z ds) := by
  have HS := Lib.hid H
  have HK := Lib.hid hk
  clear H hk
  have x1 : max ((k : Int) - ((k : Int) + (z : Int))) 0 = 0 := by omega
  have x4 : min (k : Int) ((k : Int) + (z : Int)) = (k : Int) := by omega
  have x5 : (k : Int) + (z : Int) - (k : Int) = (z : Int) := by omega
  have x6 : decide ((0 : Int) < (k : Int) + (z : Int)) = true := by simp; omega
  cases neg
  · go_enter Tryz.func60, Tryz.ntmps60
    go_wp2_with fail
    go_loopw [0, 191] (fun d i wr => ∃ j : Nat, j ≤ k ∧ i = .int .i64 j ∧ St base w0 g ds d wr ([] ++ ds.take j)) (fun _ i _ => k - (RowKit.intOf i).toNat)
    case atStart => exact ⟨0, by omega, rfl, by rw [List.take_zero, List.append_nil]; exact HS.out⟩
    case round =>
      obtain ⟨j, hj, rfl, H5⟩ := hrel
      have HS5 := Lib.hid H5
      clear H5
      by_cases hjk : j < k
      · have C := HS5.out.dig j (by rw [HK.out]; omega)
        have i1 : (j : Int) < 32 := by omega
        go_wp2_with (at_builtin; (refine st_num rfl _ _ rfl _ rfl rfl HS5.out (by simp [zs, HK.out] <;> omega) ?_; intro v6 w6 H6; have HS6 := Lib.hid H6; clear H6))
        go_roundw
        case rel => exact ⟨j + 1, by omega, by go_num, by have := HS6.out; rw [List.append_assoc, take_succ' ds j (by rw [HK.out]; omega)] at this; exact this⟩
        case measure => simp [RowKit.intOf]; omega
      · obtain rfl : j = k := by omega
        go_wp2_with fail
        go_loopw [0, 203] (fun d i wr => ∃ n : Nat, n ≤ z ∧ i = .int .i64 n ∧ St base w0 g ds d wr ([] ++ ds ++ zs n)) (fun _ i _ => z - (RowKit.intOf i).toNat)
        case atStart => exact ⟨0, by omega, rfl, by have := HS5.out; rw [← HK.out, List.take_length] at this; exact (List.append_nil _).symm ▸ this⟩
        case round =>
          obtain ⟨n, hn, rfl, H7⟩ := hrel
          have HS7 := Lib.hid H7
          clear H7
          by_cases hnz : n < z
          · go_wp2_with (at_builtin; (refine st_num rfl _ _ rfl 48 rfl rfl HS7.out (by simp [zs, HK.out] <;> omega) ?_; intro v8 w8 H8; have HS8 := Lib.hid H8; clear H8))
            go_roundw
            case rel => exact ⟨n + 1, by omega, by go_num, by have := HS8.out; rw [List.append_assoc, ← zs_succ] at this; exact this⟩
            case measure => simp [RowKit.intOf]; omega
          · obtain rfl : n = z := by omega
            go_wp2_with fail
            go_ret
            exact ⟨_, rfl, HS7.out⟩
  · go_enter Tryz.func60, Tryz.ntmps60
    go_wp2_with (at_builtin; (refine st_num rfl _ _ rfl 45 rfl rfl HS.out (by simp [zs, HK.out] <;> omega) ?_; intro v9 w9 H9; have HS9 := Lib.hid H9; clear H9))
    go_loopw [0, 191] (fun d i wr => ∃ j : Nat, j ≤ k ∧ i = .int .i64 j ∧ St base w0 g ds d wr ([] ++ [45] ++ ds.take j)) (fun _ i _ => k - (RowKit.intOf i).toNat)
    case atStart => exact ⟨0, by omega, rfl, by rw [List.take_zero, List.append_nil]; exact HS9.out⟩
    case round =>
      obtain ⟨j, hj, rfl, H5⟩ := hrel
      have HS5 := Lib.hid H5
      clear H5
      by_cases hjk : j < k
      · have C := HS5.out.dig j (by rw [HK.out]; omega)
        have i1 : (j : Int) < 32 := by omega
        go_wp2_with (at_builtin; (refine st_num rfl _ _ rfl _ rfl rfl HS5.out (by simp [zs, HK.out] <;> omega) ?_; intro v6 w6 H6; have HS6 := Lib.hid H6; clear H6))
        go_roundw
        case rel => exact ⟨j + 1, by omega, by go_num, by have := HS6.out; rw [List.append_assoc, take_succ' ds j (by rw [HK.out]; omega)] at this; exact this⟩
        case measure => simp [RowKit.intOf]; omega
      · obtain rfl : j = k := by omega
        go_wp2_with fail
        go_loopw [0, 203] (fun d i wr => ∃ n : Nat, n ≤ z ∧ i = .int .i64 n ∧ St base w0 g ds d wr ([] ++ [45] ++ ds ++ zs n)) (fun _ i _ => z - (RowKit.intOf i).toNat)
        case atStart => exact ⟨0, by omega, rfl, by have := HS5.out; rw [← HK.out, List.take_length] at this; exact (List.append_nil _).symm ▸ this⟩
        case round =>
          obtain ⟨n, hn, rfl, H7⟩ := hrel
          have HS7 := Lib.hid H7
          clear H7
          by_cases hnz : n < z
          · go_wp2_with (at_builtin; (refine st_num rfl _ _ rfl 48 rfl rfl HS7.out (by simp [zs, HK.out] <;> omega) ?_; intro v8 w8 H8; have HS8 := Lib.hid H8; clear H8))
            go_roundw
            case rel => exact ⟨n + 1, by omega, by go_num, by have := HS8.out; rw [List.append_assoc, ← zs_succ] at this; exact this⟩
            case measure => simp [RowKit.intOf]; omega
          · obtain rfl : n = z := by omega
            go_wp2_with fail
            go_ret
            exact ⟨_, rfl, HS7.out⟩
end Go.Proofs.YtedllapajgcfeaaGreatDoor
