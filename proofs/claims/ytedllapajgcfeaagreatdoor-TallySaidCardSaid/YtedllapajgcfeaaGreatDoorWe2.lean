/-
  internal/strconv.fmtEFG at any digits, without an exponent, none ahead of the point but zero excepted: walked.
-/
import Derived.Test.YtedllapajgcfeaaGreatDoorWe
namespace Go.Proofs.YtedllapajgcfeaaGreatDoor
set_option linter.unusedVariables false
set_option linter.unusedSimpArgs false
open Go.RowKit Go.Proofs.YtedllapajgcfeaaGreatDoorW.PrintWords

set_option maxRecDepth 100000 in
set_option maxHeartbeats 6400000 in
theorem efg_B (neg : Bool) (v : Value) (base g : Nat) (ds : List Int) (k p : Nat) (w0 w : World) (H : St base w0 g ds v w []) (hk : ds.length = k) (hk2 : k ≤ 17) (hp : 1 ≤ p) (hp2 : p < k) (hp3 : p ≤ 6) :
    Calls Tryz.prog 60 #[v, .bool neg, .slice (some ⟨g, 0, none⟩) 32 32, .int .i64 p, .int .i64 k, .int .i64 k, .int .u8 103, .bool true] w fun e w' => ∃ v', e = .returned v' ∧ St base w0 g ds v' w' (txB neg p ds) := by
  have HS := Lib.hid H
  have HK := Lib.hid hk
  clear H hk
  have x1 : max ((k : Int) - (p : Int)) 0 = (k : Int) - (p : Int) := by omega
  have x2 : max 0 (-(p : Int)) = 0 := by omega
  have x3 : min ((k : Int) - (p : Int)) 0 = 0 := by omega
  have x4 : min (k : Int) (p : Int) = (p : Int) := by omega
  have x5 : max 0 ((k : Int) - (p : Int)) = (k : Int) - (p : Int) := by omega
  have x6 : min ((k : Int) - (p : Int)) ((k : Int) - (p : Int)) = (k : Int) - (p : Int) := by omega
  have x7 : (k : Int) - (p : Int) - ((k : Int) - (p : Int)) = 0 := by omega
  have x8 : decide (0 < p) = true := by simp; omega
  have x9 : decide ((0 : Int) < (k : Int) - (p : Int)) = true := by simp; omega
  cases neg
  · go_enter Tryz.func60, Tryz.ntmps60
    go_wp2_with fail
    go_loopw [0, 191] (fun d i wr => ∃ j : Nat, j ≤ p ∧ i = .int .i64 j ∧ St base w0 g ds d wr ([] ++ ds.take j)) (fun _ i _ => p - (RowKit.intOf i).toNat)
    case atStart => exact ⟨0, by omega, rfl, by rw [List.take_zero, List.append_nil]; exact HS.out⟩
    case round =>
      obtain ⟨j, hj, rfl, H5⟩ := hrel
      have HS5 := Lib.hid H5
      clear H5
      by_cases hjk : j < p
      · have C := HS5.out.dig j (by rw [HK.out]; omega)
        have i1 : (j : Int) < 32 := by omega
        go_wp2_with (at_builtin; (refine st_num rfl _ _ rfl _ rfl rfl HS5.out (by simp [zs, HK.out] <;> omega) ?_; intro v6 w6 H6; have HS6 := Lib.hid H6; clear H6))
        go_roundw
        case rel => exact ⟨j + 1, by omega, by go_num, by have := HS6.out; rw [List.append_assoc, take_succ' ds j (by rw [HK.out]; omega)] at this; exact this⟩
        case measure => simp [RowKit.intOf]; omega
      · obtain rfl : j = p := by omega
        go_wp2_with fail
        go_loopw [0, 203] (fun d i wr => i = .int .i64 0 ∧ St base w0 g ds d wr ([] ++ ds.take j)) (fun _ i _ => 0)
        case atStart => exact ⟨rfl, HS5.out⟩
        case round =>
          obtain ⟨rfl, H7⟩ := hrel
          have HS7 := Lib.hid H7
          clear H7
          go_wp2_with (at_builtin; (refine st_num rfl _ _ rfl 46 rfl rfl HS7.out (by simp [zs, HK.out] <;> omega) ?_; intro v2 w2 H2; have HS2 := Lib.hid H2; clear H2))
          go_loopw [0, 240] (fun d i wr => i = .int .i64 0 ∧ St base w0 g ds d wr ([] ++ ds.take j ++ [46])) (fun _ i _ => 0)
          case atStart => exact ⟨rfl, HS2.out⟩
          case round =>
            obtain ⟨rfl, H3⟩ := hrel
            have HS3 := Lib.hid H3
            clear H3
            go_wp2_with fail
            go_loopw [0, 247] (fun d i wr => ∃ q : Nat, q ≤ k - j ∧ i = .int .i64 q ∧ St base w0 g ds d wr ([] ++ ds.take j ++ [46] ++ (ds.drop j).take q)) (fun _ i _ => (k - j) - (RowKit.intOf i).toNat)
            case atStart => exact ⟨0, by omega, rfl, by rw [List.take_zero, List.append_nil]; exact HS3.out⟩
            case round =>
              obtain ⟨q, hq, rfl, H4⟩ := hrel
              have HS4 := Lib.hid H4
              clear H4
              by_cases hqk : q < k - j
              · have C := HS4.out.dig (j + q) (by rw [HK.out]; omega)
                have i1 : (j : Int) + (q : Int) < 32 := by omega
                have a1 := i64w ((j : Int) + q) (by omega) (by omega)
                have hq2 : (q : Int) < (k : Int) - (j : Int) := by omega
                have t1 : ((j : Int) + (q : Int)).toNat = j + q := by omega
                go_wp2_with (at_builtin; (refine st_num rfl _ _ rfl _ rfl rfl HS4.out (by simp [zs, HK.out] <;> omega) ?_; intro v8 w8 H8; have HS8 := Lib.hid H8; clear H8))
                go_roundw
                case rel => exact ⟨q + 1, by omega, by go_num, by have := HS8.out; rw [List.append_assoc, drop_take_succ ds j q (by rw [HK.out]; omega)] at this; exact this⟩
                case measure => simp [RowKit.intOf]; omega
              · have hq2 : (q : Int) = (k : Int) - (j : Int) := by omega
                have hq3 : q = k - j := by omega
                go_wp2_with fail
                go_loopw [0, 261] (fun d i wr => i = .int .i64 0 ∧ St base w0 g ds d wr ([] ++ ds.take j ++ [46] ++ (ds.drop j).take q)) (fun _ i _ => 0)
                case atStart => exact ⟨rfl, HS4.out⟩
                case round =>
                  obtain ⟨rfl, H8⟩ := hrel
                  have HS8 := Lib.hid H8
                  clear H8
                  go_wp2_with fail
                  go_ret
                  refine ⟨_, rfl, ?_⟩
                  have := HS8.out
                  have e : (ds.drop j).take (k - j) = ds.drop j := List.take_of_length_le (by simp [HK.out])
                  rw [hq3, e] at this
                  exact this
  · go_enter Tryz.func60, Tryz.ntmps60
    go_wp2_with (at_builtin; (refine st_num rfl _ _ rfl 45 rfl rfl HS.out (by simp [zs, HK.out] <;> omega) ?_; intro v9 w9 H9; have HS9 := Lib.hid H9; clear H9))
    go_loopw [0, 191] (fun d i wr => ∃ j : Nat, j ≤ p ∧ i = .int .i64 j ∧ St base w0 g ds d wr ([] ++ [45] ++ ds.take j)) (fun _ i _ => p - (RowKit.intOf i).toNat)
    case atStart => exact ⟨0, by omega, rfl, by rw [List.take_zero, List.append_nil]; exact HS9.out⟩
    case round =>
      obtain ⟨j, hj, rfl, H5⟩ := hrel
      have HS5 := Lib.hid H5
      clear H5
      by_cases hjk : j < p
      · have C := HS5.out.dig j (by rw [HK.out]; omega)
        have i1 : (j : Int) < 32 := by omega
        go_wp2_with (at_builtin; (refine st_num rfl _ _ rfl _ rfl rfl HS5.out (by simp [zs, HK.out] <;> omega) ?_; intro v6 w6 H6; have HS6 := Lib.hid H6; clear H6))
        go_roundw
        case rel => exact ⟨j + 1, by omega, by go_num, by have := HS6.out; rw [List.append_assoc, take_succ' ds j (by rw [HK.out]; omega)] at this; exact this⟩
        case measure => simp [RowKit.intOf]; omega
      · obtain rfl : j = p := by omega
        go_wp2_with fail
        go_loopw [0, 203] (fun d i wr => i = .int .i64 0 ∧ St base w0 g ds d wr ([] ++ [45] ++ ds.take j)) (fun _ i _ => 0)
        case atStart => exact ⟨rfl, HS5.out⟩
        case round =>
          obtain ⟨rfl, H7⟩ := hrel
          have HS7 := Lib.hid H7
          clear H7
          go_wp2_with (at_builtin; (refine st_num rfl _ _ rfl 46 rfl rfl HS7.out (by simp [zs, HK.out] <;> omega) ?_; intro v2 w2 H2; have HS2 := Lib.hid H2; clear H2))
          go_loopw [0, 240] (fun d i wr => i = .int .i64 0 ∧ St base w0 g ds d wr ([] ++ [45] ++ ds.take j ++ [46])) (fun _ i _ => 0)
          case atStart => exact ⟨rfl, HS2.out⟩
          case round =>
            obtain ⟨rfl, H3⟩ := hrel
            have HS3 := Lib.hid H3
            clear H3
            go_wp2_with fail
            go_loopw [0, 247] (fun d i wr => ∃ q : Nat, q ≤ k - j ∧ i = .int .i64 q ∧ St base w0 g ds d wr ([] ++ [45] ++ ds.take j ++ [46] ++ (ds.drop j).take q)) (fun _ i _ => (k - j) - (RowKit.intOf i).toNat)
            case atStart => exact ⟨0, by omega, rfl, by rw [List.take_zero, List.append_nil]; exact HS3.out⟩
            case round =>
              obtain ⟨q, hq, rfl, H4⟩ := hrel
              have HS4 := Lib.hid H4
              clear H4
              by_cases hqk : q < k - j
              · have C := HS4.out.dig (j + q) (by rw [HK.out]; omega)
                have i1 : (j : Int) + (q : Int) < 32 := by omega
                have a1 := i64w ((j : Int) + q) (by omega) (by omega)
                have hq2 : (q : Int) < (k : Int) - (j : Int) := by omega
                have t1 : ((j : Int) + (q : Int)).toNat = j + q := by omega
                go_wp2_with (at_builtin; (refine st_num rfl _ _ rfl _ rfl rfl HS4.out (by simp [zs, HK.out] <;> omega) ?_; intro v8 w8 H8; have HS8 := Lib.hid H8; clear H8))
                go_roundw
                case rel => exact ⟨q + 1, by omega, by go_num, by have := HS8.out; rw [List.append_assoc, drop_take_succ ds j q (by rw [HK.out]; omega)] at this; exact this⟩
                case measure => simp [RowKit.intOf]; omega
              · have hq2 : (q : Int) = (k : Int) - (j : Int) := by omega
                have hq3 : q = k - j := by omega
                go_wp2_with fail
                go_loopw [0, 261] (fun d i wr => i = .int .i64 0 ∧ St base w0 g ds d wr ([] ++ [45] ++ ds.take j ++ [46] ++ (ds.drop j).take q)) (fun _ i _ => 0)
                case atStart => exact ⟨rfl, HS4.out⟩
                case round =>
                  obtain ⟨rfl, H8⟩ := hrel
                  have HS8 := Lib.hid H8
                  clear H8
                  go_wp2_with fail
                  go_ret
                  refine ⟨_, rfl, ?_⟩
                  have := HS8.out
                  have e : (ds.drop j).take (k - j) = ds.drop j := List.take_of_length_le (by simp [HK.out])
                  rw [hq3, e] at this
                  exact this
end Go.Proofs.YtedllapajgcfeaaGreatDoor
