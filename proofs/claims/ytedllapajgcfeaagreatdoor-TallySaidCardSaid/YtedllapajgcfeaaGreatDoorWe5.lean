/-
  internal/strconv.fmtEFG at any digits, one digit, with an exponent: walked.
-/
import Derived.Test.YtedllapajgcfeaaGreatDoorWe4
namespace Go.Proofs.YtedllapajgcfeaaGreatDoor
set_option linter.unusedVariables false
set_option linter.unusedSimpArgs false
open Go.RowKit Go.Proofs.YtedllapajgcfeaaGreatDoorW.PrintWords

set_option maxRecDepth 100000 in
set_option maxHeartbeats 6400000 in
theorem efg_E0d (neg : Bool) (v : Value) (base g : Nat) (ds : List Int) (k n : Nat) (w0 w : World) (H : St base w0 g ds v w []) (hk : ds.length = k) (hk1 : k = 1) (hk2 : k ≤ 17) (hx : 5 ≤ n) (hx2 : n ≤ 400) :
    Calls Tryz.prog 60 #[v, .bool neg, .slice (some ⟨g, 0, none⟩) 32 32, .int .i64 ((-(n : Int)) + 1), .int .i64 k, .int .i64 k, .int .u8 103, .bool true] w fun e w' => ∃ v', e = .returned v' ∧ St base w0 g ds v' w' (txE neg false n ds) := by
  have HS := Lib.hid H
  have HK := Lib.hid hk
  clear H hk
  subst hk1
  have C := HS.out.dig 0 (by rw [HK.out]; omega)
  have x1 : (-(n : Int)) + 1 - 1 = (-(n : Int)) := by omega
  skip
  skip
  have HT := Lib.hid (show (1 : Nat) = 1 from rfl)
  have t1 : decide ((-(n : Int)) < -4) = true := by first | (simp; done) | (simp; omega)
  skip
  cases neg
  · by_cases hn1 : n < 10
    · skip
      go_enter Tryz.func60, Tryz.ntmps60
      go_wp2_with (at_builtin; first | (refine st_num rfl _ _ rfl _ rfl rfl HS.out (by simp [zs, HK.out] <;> omega) ?_; intro v1 w1 H1; have HS1 := Lib.hid H1; clear H1 HS) | (refine st_num rfl _ _ rfl 101 rfl rfl HS1.out (by simp [zs, HK.out] <;> omega) ?_; intro v4 w4 H4; have HS4 := Lib.hid H4; clear H4 HS1) | (refine st_num rfl _ _ rfl 45 rfl rfl HS4.out (by simp [zs, HK.out] <;> omega) ?_; intro v5 w5 H5; have HS5 := Lib.hid H5; clear H5 HS4) | (refine st_lits rfl _ _ rfl [48, _] rfl rfl HS5.out (by simp <;> omega) ?_; intro v6 w6 H6; have HS6 := Lib.hid H6; clear H6 HS5))
      go_ret
      exact ⟨_, rfl, by have := HS6.out; have e := HT.out; first | (rw [e] at this; simpa [txE, sgT, exT, HK.out,  hn1, Int.add_comm] using this) | (simpa [txE, sgT, exT, HK.out,  hn1, Int.add_comm] using this)⟩
    · by_cases hn2 : n < 100
      · skip
        go_enter Tryz.func60, Tryz.ntmps60
        go_wp2_with (at_builtin; first | (refine st_num rfl _ _ rfl _ rfl rfl HS.out (by simp [zs, HK.out] <;> omega) ?_; intro v1 w1 H1; have HS1 := Lib.hid H1; clear H1 HS) | (refine st_num rfl _ _ rfl 101 rfl rfl HS1.out (by simp [zs, HK.out] <;> omega) ?_; intro v4 w4 H4; have HS4 := Lib.hid H4; clear H4 HS1) | (refine st_num rfl _ _ rfl 45 rfl rfl HS4.out (by simp [zs, HK.out] <;> omega) ?_; intro v5 w5 H5; have HS5 := Lib.hid H5; clear H5 HS4) | (refine st_lits rfl _ _ rfl [_, _] rfl rfl HS5.out (by simp <;> omega) ?_; intro v6 w6 H6; have HS6 := Lib.hid H6; clear H6 HS5))
        go_ret
        exact ⟨_, rfl, by have := HS6.out; have e := HT.out; first | (rw [e] at this; simpa [txE, sgT, exT, HK.out,  hn1, hn2, Int.add_comm] using this) | (simpa [txE, sgT, exT, HK.out,  hn1, hn2, Int.add_comm] using this)⟩
      · skip
        go_enter Tryz.func60, Tryz.ntmps60
        go_wp2_with (at_builtin; first | (refine st_num rfl _ _ rfl _ rfl rfl HS.out (by simp [zs, HK.out] <;> omega) ?_; intro v1 w1 H1; have HS1 := Lib.hid H1; clear H1 HS) | (refine st_num rfl _ _ rfl 101 rfl rfl HS1.out (by simp [zs, HK.out] <;> omega) ?_; intro v4 w4 H4; have HS4 := Lib.hid H4; clear H4 HS1) | (refine st_num rfl _ _ rfl 45 rfl rfl HS4.out (by simp [zs, HK.out] <;> omega) ?_; intro v5 w5 H5; have HS5 := Lib.hid H5; clear H5 HS4) | (refine st_lits rfl _ _ rfl [_, _, _] rfl rfl HS5.out (by simp <;> omega) ?_; intro v6 w6 H6; have HS6 := Lib.hid H6; clear H6 HS5))
        go_ret
        exact ⟨_, rfl, by have := HS6.out; have e := HT.out; first | (rw [e] at this; simpa [txE, sgT, exT, HK.out,  hn1, hn2, Int.add_comm] using this) | (simpa [txE, sgT, exT, HK.out,  hn1, hn2, Int.add_comm] using this)⟩
  · by_cases hn1 : n < 10
    · skip
      go_enter Tryz.func60, Tryz.ntmps60
      go_wp2_with (at_builtin; first | (refine st_num rfl _ _ rfl 45 rfl rfl HS.out (by simp [zs, HK.out] <;> omega) ?_; intro v9 w9 H9; have HS9 := Lib.hid H9; clear H9 HS; have C9 := HS9.out.dig 0 (by rw [HK.out]; omega)) | (refine st_num rfl _ _ rfl _ rfl rfl HS9.out (by simp [zs, HK.out] <;> omega) ?_; intro v1 w1 H1; have HS1 := Lib.hid H1; clear H1 HS9) | (refine st_num rfl _ _ rfl 101 rfl rfl HS1.out (by simp [zs, HK.out] <;> omega) ?_; intro v4 w4 H4; have HS4 := Lib.hid H4; clear H4 HS1) | (refine st_num rfl _ _ rfl 45 rfl rfl HS4.out (by simp [zs, HK.out] <;> omega) ?_; intro v5 w5 H5; have HS5 := Lib.hid H5; clear H5 HS4) | (refine st_lits rfl _ _ rfl [48, _] rfl rfl HS5.out (by simp <;> omega) ?_; intro v6 w6 H6; have HS6 := Lib.hid H6; clear H6 HS5))
      go_ret
      exact ⟨_, rfl, by have := HS6.out; have e := HT.out; first | (rw [e] at this; simpa [txE, sgT, exT, HK.out,  hn1, Int.add_comm] using this) | (simpa [txE, sgT, exT, HK.out,  hn1, Int.add_comm] using this)⟩
    · by_cases hn2 : n < 100
      · skip
        go_enter Tryz.func60, Tryz.ntmps60
        go_wp2_with (at_builtin; first | (refine st_num rfl _ _ rfl 45 rfl rfl HS.out (by simp [zs, HK.out] <;> omega) ?_; intro v9 w9 H9; have HS9 := Lib.hid H9; clear H9 HS; have C9 := HS9.out.dig 0 (by rw [HK.out]; omega)) | (refine st_num rfl _ _ rfl _ rfl rfl HS9.out (by simp [zs, HK.out] <;> omega) ?_; intro v1 w1 H1; have HS1 := Lib.hid H1; clear H1 HS9) | (refine st_num rfl _ _ rfl 101 rfl rfl HS1.out (by simp [zs, HK.out] <;> omega) ?_; intro v4 w4 H4; have HS4 := Lib.hid H4; clear H4 HS1) | (refine st_num rfl _ _ rfl 45 rfl rfl HS4.out (by simp [zs, HK.out] <;> omega) ?_; intro v5 w5 H5; have HS5 := Lib.hid H5; clear H5 HS4) | (refine st_lits rfl _ _ rfl [_, _] rfl rfl HS5.out (by simp <;> omega) ?_; intro v6 w6 H6; have HS6 := Lib.hid H6; clear H6 HS5))
        go_ret
        exact ⟨_, rfl, by have := HS6.out; have e := HT.out; first | (rw [e] at this; simpa [txE, sgT, exT, HK.out,  hn1, hn2, Int.add_comm] using this) | (simpa [txE, sgT, exT, HK.out,  hn1, hn2, Int.add_comm] using this)⟩
      · skip
        go_enter Tryz.func60, Tryz.ntmps60
        go_wp2_with (at_builtin; first | (refine st_num rfl _ _ rfl 45 rfl rfl HS.out (by simp [zs, HK.out] <;> omega) ?_; intro v9 w9 H9; have HS9 := Lib.hid H9; clear H9 HS; have C9 := HS9.out.dig 0 (by rw [HK.out]; omega)) | (refine st_num rfl _ _ rfl _ rfl rfl HS9.out (by simp [zs, HK.out] <;> omega) ?_; intro v1 w1 H1; have HS1 := Lib.hid H1; clear H1 HS9) | (refine st_num rfl _ _ rfl 101 rfl rfl HS1.out (by simp [zs, HK.out] <;> omega) ?_; intro v4 w4 H4; have HS4 := Lib.hid H4; clear H4 HS1) | (refine st_num rfl _ _ rfl 45 rfl rfl HS4.out (by simp [zs, HK.out] <;> omega) ?_; intro v5 w5 H5; have HS5 := Lib.hid H5; clear H5 HS4) | (refine st_lits rfl _ _ rfl [_, _, _] rfl rfl HS5.out (by simp <;> omega) ?_; intro v6 w6 H6; have HS6 := Lib.hid H6; clear H6 HS5))
        go_ret
        exact ⟨_, rfl, by have := HS6.out; have e := HT.out; first | (rw [e] at this; simpa [txE, sgT, exT, HK.out,  hn1, hn2, Int.add_comm] using this) | (simpa [txE, sgT, exT, HK.out,  hn1, hn2, Int.add_comm] using this)⟩
set_option maxRecDepth 100000 in
set_option maxHeartbeats 6400000 in
theorem efg_E0u (neg : Bool) (v : Value) (base g : Nat) (ds : List Int) (k n : Nat) (w0 w : World) (H : St base w0 g ds v w []) (hk : ds.length = k) (hk1 : k = 1) (hk2 : k ≤ 17) (hx : 6 ≤ n) (hx2 : n ≤ 400) :
    Calls Tryz.prog 60 #[v, .bool neg, .slice (some ⟨g, 0, none⟩) 32 32, .int .i64 ((n : Int) + 1), .int .i64 k, .int .i64 k, .int .u8 103, .bool true] w fun e w' => ∃ v', e = .returned v' ∧ St base w0 g ds v' w' (txE neg true n ds) := by
  have HS := Lib.hid H
  have HK := Lib.hid hk
  clear H hk
  subst hk1
  have C := HS.out.dig 0 (by rw [HK.out]; omega)
  have x1 : (n : Int) + 1 - 1 = (n : Int) := by omega
  skip
  skip
  have HT := Lib.hid (show (1 : Nat) = 1 from rfl)
  have t1 : decide ((n : Int) < -4) = false := by first | (simp; done) | (simp; omega)
  have t2 : decide ((n : Int) ≥ 6) = true := by first | (simp; done) | (simp; omega)
  cases neg
  · by_cases hn1 : n < 10
    · skip
      go_enter Tryz.func60, Tryz.ntmps60
      go_wp2_with (at_builtin; first | (refine st_num rfl _ _ rfl _ rfl rfl HS.out (by simp [zs, HK.out] <;> omega) ?_; intro v1 w1 H1; have HS1 := Lib.hid H1; clear H1 HS) | (refine st_num rfl _ _ rfl 101 rfl rfl HS1.out (by simp [zs, HK.out] <;> omega) ?_; intro v4 w4 H4; have HS4 := Lib.hid H4; clear H4 HS1) | (refine st_num rfl _ _ rfl 43 rfl rfl HS4.out (by simp [zs, HK.out] <;> omega) ?_; intro v5 w5 H5; have HS5 := Lib.hid H5; clear H5 HS4) | (refine st_lits rfl _ _ rfl [48, _] rfl rfl HS5.out (by simp <;> omega) ?_; intro v6 w6 H6; have HS6 := Lib.hid H6; clear H6 HS5))
      go_ret
      exact ⟨_, rfl, by have := HS6.out; have e := HT.out; first | (rw [e] at this; simpa [txE, sgT, exT, HK.out,  hn1, Int.add_comm] using this) | (simpa [txE, sgT, exT, HK.out,  hn1, Int.add_comm] using this)⟩
    · by_cases hn2 : n < 100
      · skip
        go_enter Tryz.func60, Tryz.ntmps60
        go_wp2_with (at_builtin; first | (refine st_num rfl _ _ rfl _ rfl rfl HS.out (by simp [zs, HK.out] <;> omega) ?_; intro v1 w1 H1; have HS1 := Lib.hid H1; clear H1 HS) | (refine st_num rfl _ _ rfl 101 rfl rfl HS1.out (by simp [zs, HK.out] <;> omega) ?_; intro v4 w4 H4; have HS4 := Lib.hid H4; clear H4 HS1) | (refine st_num rfl _ _ rfl 43 rfl rfl HS4.out (by simp [zs, HK.out] <;> omega) ?_; intro v5 w5 H5; have HS5 := Lib.hid H5; clear H5 HS4) | (refine st_lits rfl _ _ rfl [_, _] rfl rfl HS5.out (by simp <;> omega) ?_; intro v6 w6 H6; have HS6 := Lib.hid H6; clear H6 HS5))
        go_ret
        exact ⟨_, rfl, by have := HS6.out; have e := HT.out; first | (rw [e] at this; simpa [txE, sgT, exT, HK.out,  hn1, hn2, Int.add_comm] using this) | (simpa [txE, sgT, exT, HK.out,  hn1, hn2, Int.add_comm] using this)⟩
      · skip
        go_enter Tryz.func60, Tryz.ntmps60
        go_wp2_with (at_builtin; first | (refine st_num rfl _ _ rfl _ rfl rfl HS.out (by simp [zs, HK.out] <;> omega) ?_; intro v1 w1 H1; have HS1 := Lib.hid H1; clear H1 HS) | (refine st_num rfl _ _ rfl 101 rfl rfl HS1.out (by simp [zs, HK.out] <;> omega) ?_; intro v4 w4 H4; have HS4 := Lib.hid H4; clear H4 HS1) | (refine st_num rfl _ _ rfl 43 rfl rfl HS4.out (by simp [zs, HK.out] <;> omega) ?_; intro v5 w5 H5; have HS5 := Lib.hid H5; clear H5 HS4) | (refine st_lits rfl _ _ rfl [_, _, _] rfl rfl HS5.out (by simp <;> omega) ?_; intro v6 w6 H6; have HS6 := Lib.hid H6; clear H6 HS5))
        go_ret
        exact ⟨_, rfl, by have := HS6.out; have e := HT.out; first | (rw [e] at this; simpa [txE, sgT, exT, HK.out,  hn1, hn2, Int.add_comm] using this) | (simpa [txE, sgT, exT, HK.out,  hn1, hn2, Int.add_comm] using this)⟩
  · by_cases hn1 : n < 10
    · skip
      go_enter Tryz.func60, Tryz.ntmps60
      go_wp2_with (at_builtin; first | (refine st_num rfl _ _ rfl 45 rfl rfl HS.out (by simp [zs, HK.out] <;> omega) ?_; intro v9 w9 H9; have HS9 := Lib.hid H9; clear H9 HS; have C9 := HS9.out.dig 0 (by rw [HK.out]; omega)) | (refine st_num rfl _ _ rfl _ rfl rfl HS9.out (by simp [zs, HK.out] <;> omega) ?_; intro v1 w1 H1; have HS1 := Lib.hid H1; clear H1 HS9) | (refine st_num rfl _ _ rfl 101 rfl rfl HS1.out (by simp [zs, HK.out] <;> omega) ?_; intro v4 w4 H4; have HS4 := Lib.hid H4; clear H4 HS1) | (refine st_num rfl _ _ rfl 43 rfl rfl HS4.out (by simp [zs, HK.out] <;> omega) ?_; intro v5 w5 H5; have HS5 := Lib.hid H5; clear H5 HS4) | (refine st_lits rfl _ _ rfl [48, _] rfl rfl HS5.out (by simp <;> omega) ?_; intro v6 w6 H6; have HS6 := Lib.hid H6; clear H6 HS5))
      go_ret
      exact ⟨_, rfl, by have := HS6.out; have e := HT.out; first | (rw [e] at this; simpa [txE, sgT, exT, HK.out,  hn1, Int.add_comm] using this) | (simpa [txE, sgT, exT, HK.out,  hn1, Int.add_comm] using this)⟩
    · by_cases hn2 : n < 100
      · skip
        go_enter Tryz.func60, Tryz.ntmps60
        go_wp2_with (at_builtin; first | (refine st_num rfl _ _ rfl 45 rfl rfl HS.out (by simp [zs, HK.out] <;> omega) ?_; intro v9 w9 H9; have HS9 := Lib.hid H9; clear H9 HS; have C9 := HS9.out.dig 0 (by rw [HK.out]; omega)) | (refine st_num rfl _ _ rfl _ rfl rfl HS9.out (by simp [zs, HK.out] <;> omega) ?_; intro v1 w1 H1; have HS1 := Lib.hid H1; clear H1 HS9) | (refine st_num rfl _ _ rfl 101 rfl rfl HS1.out (by simp [zs, HK.out] <;> omega) ?_; intro v4 w4 H4; have HS4 := Lib.hid H4; clear H4 HS1) | (refine st_num rfl _ _ rfl 43 rfl rfl HS4.out (by simp [zs, HK.out] <;> omega) ?_; intro v5 w5 H5; have HS5 := Lib.hid H5; clear H5 HS4) | (refine st_lits rfl _ _ rfl [_, _] rfl rfl HS5.out (by simp <;> omega) ?_; intro v6 w6 H6; have HS6 := Lib.hid H6; clear H6 HS5))
        go_ret
        exact ⟨_, rfl, by have := HS6.out; have e := HT.out; first | (rw [e] at this; simpa [txE, sgT, exT, HK.out,  hn1, hn2, Int.add_comm] using this) | (simpa [txE, sgT, exT, HK.out,  hn1, hn2, Int.add_comm] using this)⟩
      · skip
        go_enter Tryz.func60, Tryz.ntmps60
        go_wp2_with (at_builtin; first | (refine st_num rfl _ _ rfl 45 rfl rfl HS.out (by simp [zs, HK.out] <;> omega) ?_; intro v9 w9 H9; have HS9 := Lib.hid H9; clear H9 HS; have C9 := HS9.out.dig 0 (by rw [HK.out]; omega)) | (refine st_num rfl _ _ rfl _ rfl rfl HS9.out (by simp [zs, HK.out] <;> omega) ?_; intro v1 w1 H1; have HS1 := Lib.hid H1; clear H1 HS9) | (refine st_num rfl _ _ rfl 101 rfl rfl HS1.out (by simp [zs, HK.out] <;> omega) ?_; intro v4 w4 H4; have HS4 := Lib.hid H4; clear H4 HS1) | (refine st_num rfl _ _ rfl 43 rfl rfl HS4.out (by simp [zs, HK.out] <;> omega) ?_; intro v5 w5 H5; have HS5 := Lib.hid H5; clear H5 HS4) | (refine st_lits rfl _ _ rfl [_, _, _] rfl rfl HS5.out (by simp <;> omega) ?_; intro v6 w6 H6; have HS6 := Lib.hid H6; clear H6 HS5))
        go_ret
        exact ⟨_, rfl, by have := HS6.out; have e := HT.out; first | (rw [e] at this; simpa [txE, sgT, exT, HK.out,  hn1, hn2, Int.add_comm] using this) | (simpa [txE, sgT, exT, HK.out,  hn1, hn2, Int.add_comm] using this)⟩
end Go.Proofs.YtedllapajgcfeaaGreatDoor
