/-
  slices.DeleteFunc by tally.odd, of the five numbers of awake in their order: walked.
-/
import Derived.Test.YtedllapajgcfeaaGreatDoorSrt
import Derived.Test.YtedllapajgcfeaaGreatDoorTxt
import Derived.Lib.SliceRun
namespace Go.Proofs.YtedllapajgcfeaaGreatDoor
set_option linter.unusedVariables false
set_option linter.unusedSimpArgs false
open Go.RowKit Go.Proofs.YtedllapajgcfeaaGreatDoorW.PrintWords

def oddB (x : Nat) : Bool := nanB x || gtB (x % 9223372036854775808)
def OddOk (x : Nat) : Prop := bits .andNot .u64 (x : Int) 9223372036854775808 = ((x % 9223372036854775808 : Nat) : Int)
set_option maxHeartbeats 1600000 in
theorem odd_any (x : Nat) (h : OddOk x) (w : World) : Calls Tryz.prog 28 #[.float .f64 x] w fun e w' => e = .returned (.bool (oddB x)) ∧ w = w' := by
  have HI := Lib.hid (isInf_at x _ h)
  have HN := Lib.hid (isNaN_any x)
  unfold oddB
  generalize gtB (x % 9223372036854775808) = b at HI
  clear h
  cases hn : nanB x
  · rw [hn] at HN
    go_enter Tryz.func28, Tryz.ntmps28
    go_wp2_with fail
    refine (HN.out _).mono ?_
    rintro e w1 ⟨rfl, rfl⟩
    go_wp2_with fail
    refine (HI.out _).mono ?_
    rintro e w1 ⟨rfl, rfl⟩
    go_wp2_with fail
    go_ret
    exact ⟨by simp, rfl⟩
  · rw [hn] at HN
    go_enter Tryz.func28, Tryz.ntmps28
    go_wp2_with fail
    refine (HN.out _).mono ?_
    rintro e w1 ⟨rfl, rfl⟩
    go_wp2_with fail
    go_ret
    exact ⟨by simp, rfl⟩
set_option maxHeartbeats 3200000 in
theorem idx_any (T : List Value) (g cap : Nat) (L : List Nat) (hL : L.length ≤ 1000) (hO : ∀ k, k < L.length → OddOk (L.getD k 0)) (w : World) (hg : RowF T w g L) : Calls Tryz.prog 44 #[.slice (some ⟨g, 0, none⟩) L.length cap, .func (.func 28) #[] #[]] w fun e w' => ∃ r : Int, e = .returned (.int .i64 r) ∧ ((r = -1 ∧ ∀ k, k < L.length → oddB (L.getD k 0) = false) ∨ (∃ k : Nat, k < L.length ∧ r = k ∧ oddB (L.getD k 0) = true ∧ ∀ j, j < k → oddB (L.getD j 0) = false)) ∧ w = w' := by
  have HC := Lib.hid (fun k (hk : k < L.length) => hg.cell k hk)
  have HOD := Lib.hid (fun k (hk : k < L.length) => odd_any _ (hO k hk))
  clear hO hg
  go_enter Tryz.func44, Tryz.ntmps44
  go_wp2_with fail
  go_loopw [8] (fun iv wr => ∃ k : Nat, k ≤ L.length ∧ iv = .int .i64 k ∧ w = wr ∧ ∀ j, j < k → oddB (L.getD j 0) = false) (fun iv _ => L.length - (RowKit.intOf iv).toNat)
  case atStart => exact ⟨0, by omega, rfl, rfl, fun j hj => by omega⟩
  case round =>
    obtain ⟨k, hk, rfl, rfl, hall⟩ := hrel
    by_cases hlt : k < L.length
    · have i1 : (k : Int) < L.length := by omega
      have ck := HC.out k hlt
      have HK := Lib.hid (HOD.out k hlt)
      have HALL := Lib.hid hall
      clear hall
      have HE : Hid (∀ b, oddB (L.getD k 0) = b → ∀ j, j < k + 1 → oddB (L.getD j 0) = (if j = k then b else false)) := Lib.hid fun b hb j hj => by
        by_cases e : j = k
        · subst e; rw [if_pos rfl]; exact hb
        · rw [if_neg e]; exact HALL.out j (by omega)
      generalize hx : L.getD k 0 = x at ck HK
      have HX := Lib.hid hx
      clear hx
      cases hb : oddB x
      · rw [hb] at HK
        go_wp2_with fail
        refine (HK.out _).mono ?_
        rintro e w1 ⟨rfl, rfl⟩
        go_wp2_with fail
        go_roundw
        case rel => exact ⟨k + 1, by omega, by go_num, by trivial, fun j hj => by have := HE.out false (by rw [HX.out]; exact hb) j hj; rw [this]; split <;> rfl⟩
        case measure => simp [RowKit.intOf] <;> omega
      · rw [hb] at HK
        go_wp2_with fail
        refine (HK.out _).mono ?_
        rintro e w1 ⟨rfl, rfl⟩
        go_wp2_with fail
        go_ret
        exact ⟨_, rfl, Or.inr ⟨k, hlt, rfl, by rw [HX.out]; exact hb, HALL.out⟩, rfl⟩
    · have HALL := Lib.hid hall
      have hke : k = L.length := by omega
      subst hke
      clear hall hk
      go_wp2_with fail
      go_ret
      exact ⟨_, rfl, Or.inl ⟨rfl, HALL.out⟩, rfl⟩
def xN : Nat := 9221120237041090561
def xM : Nat := 9223372036854775808
def x3 : Nat := 4613937818241073152
def xI : Nat := 9218868437227405312
theorem five_ok : ∀ k, k < [xN, xM, 0, x3, xI].length → OddOk ([xN, xM, 0, x3, xI].getD k 0) := by
  intro k hk
  have h5 : k < 5 := hk
  obtain rfl | rfl | rfl | rfl | rfl : k = 0 ∨ k = 1 ∨ k = 2 ∨ k = 3 ∨ k = 4 := by omega
  all_goals (unfold OddOk; decide +kernel)
theorem odN : oddB xN = true := by decide +kernel
theorem odM : oddB xM = false := by decide +kernel
theorem odZ : oddB 0 = false := by decide +kernel
theorem od3 : oddB x3 = false := by decide +kernel
theorem odI : oddB xI = true := by decide +kernel
set_option maxRecDepth 100000 in
set_option maxHeartbeats 6400000 in
theorem del_five (T : List Value) (g cap : Nat) (hcap : 5 ≤ cap) (w : World) (hg : RowF T w g [xN, xM, 0, x3, xI]) : Calls Tryz.prog 26 #[.slice (some ⟨g, 0, none⟩) 5 cap, .func (.func 28) #[] #[]] w fun e w' => ∃ cap' T', e = .returned (.slice (some ⟨g, 0, none⟩) 3 cap') ∧ RowF T' w' g [xM, 0, x3] ∧ Bx g w w' := by
  have HI := Lib.hid (idx_any T g cap [xN, xM, 0, x3, xI] (by decide) five_ok w hg)
  have HN := Lib.hid (odd_any xN (five_ok 0 (by decide)))
  have HM := Lib.hid (odd_any xM (five_ok 1 (by decide)))
  have HZ := Lib.hid (odd_any 0 (five_ok 2 (by decide)))
  have H3 := Lib.hid (odd_any x3 (five_ok 3 (by decide)))
  have HF := Lib.hid (odd_any xI (five_ok 4 (by decide)))
  rw [odM] at HM
  rw [odZ] at HZ
  rw [od3] at H3
  rw [odI] at HF
  have HGG := Lib.hid hg
  have hc1 : ¬ cap = 3 := by omega
  have hc2 : (3 : Int) ≤ cap := by omega
  clear hg
  go_enter Tryz.func26, Tryz.ntmps26
  go_wp2_with fail
  refine HI.out.mono ?_
  rintro e w1 ⟨r, rfl, hr, rfl⟩
  have hr0 : r = 0 := by
    rcases hr with ⟨_, h⟩ | ⟨k, hk, rfl, hk1, hall⟩
    · have := h 0 (by decide)
      exact absurd (odN.symm.trans this) (by decide)
    · rcases Nat.eq_zero_or_pos k with h0 | h0
      · rw [h0]; rfl
      · have := hall 0 h0
        exact absurd (odN.symm.trans this) (by decide)
  subst hr0
  clear hr
  go_wp2_with fail
  go_loopw [5, 6] (fun iv jv wr => Bx g w wr ∧ ((iv = .int .i64 0 ∧ jv = .int .i64 1 ∧ RowF T wr g [xN, xM, 0, x3, xI]) ∨ (iv = .int .i64 1 ∧ jv = .int .i64 2 ∧ RowF T wr g [xM, xM, 0, x3, xI]) ∨ (iv = .int .i64 2 ∧ jv = .int .i64 3 ∧ RowF T wr g [xM, 0, 0, x3, xI]) ∨ (iv = .int .i64 3 ∧ jv = .int .i64 4 ∧ RowF T wr g [xM, 0, x3, x3, xI]) ∨ (iv = .int .i64 3 ∧ jv = .int .i64 5 ∧ RowF T wr g [xM, 0, x3, x3, xI]))) (fun _ jv _ => 5 - (RowKit.intOf jv).toNat)
  case atStart => exact ⟨Bx.refl _ _, Or.inl ⟨rfl, rfl, HGG.out⟩⟩
  case round =>
    obtain ⟨HX, hrel⟩ := hrel
    have HX := Lib.hid HX
    obtain ⟨zr, hzr, HX2⟩ : ∃ z, z = wr ∧ Hid (Bx g w z) := ⟨_, rfl, HX⟩
    subst hzr
    clear HX
    rcases hrel with ⟨rfl, rfl, HR⟩ | ⟨rfl, rfl, HR⟩ | ⟨rfl, rfl, HR⟩ | ⟨rfl, rfl, HR⟩ | ⟨rfl, rfl, HR⟩
    · have c0 := HR.cell 0 (by decide)
      have c1 := HR.cell 1 (by decide)
      have f0 := blk_frozen HR 0
      have HR1 := Lib.hid HR
      clear HR
      go_wp2_with fail
      refine (HM.out _).mono ?_
      rintro e w1 ⟨rfl, rfl⟩
      go_wp2_with fail
      go_roundw
      case rel => exact ⟨HX2.out.set 0 _, Or.inr (Or.inl ⟨rfl, rfl, HR1.out.put 0 xM (by decide)⟩)⟩
      case measure => simp [RowKit.intOf]
    · have c0 := HR.cell 1 (by decide)
      have c1 := HR.cell 2 (by decide)
      have f0 := blk_frozen HR 1
      have HR1 := Lib.hid HR
      clear HR
      go_wp2_with fail
      refine (HZ.out _).mono ?_
      rintro e w1 ⟨rfl, rfl⟩
      go_wp2_with fail
      go_roundw
      case rel => exact ⟨HX2.out.set 1 _, Or.inr (Or.inr (Or.inl ⟨rfl, rfl, HR1.out.put 1 0 (by decide)⟩))⟩
      case measure => simp [RowKit.intOf]
    · have c0 := HR.cell 2 (by decide)
      have c1 := HR.cell 3 (by decide)
      have f0 := blk_frozen HR 2
      have HR1 := Lib.hid HR
      clear HR
      go_wp2_with fail
      refine (H3.out _).mono ?_
      rintro e w1 ⟨rfl, rfl⟩
      go_wp2_with fail
      go_roundw
      case rel => exact ⟨HX2.out.set 2 _, Or.inr (Or.inr (Or.inr (Or.inl ⟨rfl, rfl, HR1.out.put 2 x3 (by decide)⟩)))⟩
      case measure => simp [RowKit.intOf]
    · have c1 := HR.cell 4 (by decide)
      have HR1 := Lib.hid HR
      clear HR
      go_wp2_with fail
      refine (HF.out _).mono ?_
      rintro e w1 ⟨rfl, rfl⟩
      go_wp2_with fail
      go_roundw
      case rel => exact ⟨HX2.out, Or.inr (Or.inr (Or.inr (Or.inr ⟨rfl, rfl, HR1.out⟩)))⟩
      case measure => simp [RowKit.intOf]
    · have c3 := HR.cell 3 (by decide)
      have c4 := HR.cell 4 (by decide)
      have f3 := blk_frozen HR 3
      have f4 := blk_frozen HR 4
      have hclr : ∀ c, (Builtin.clear_ #[32] 0 #[.slice (some ⟨g, 3, none⟩) 2 c]).run Tryz.prog zr = .ok (.tuple #[]) ((zr.setCell ⟨g, 3, none⟩ (.float .f64 0)).setCell ⟨g, 4, none⟩ (.float .f64 0)) := fun c =>
        Go.Lib.run_clear_slice zr 32 22 0 (.float .f64 0) Tryz.underlying32 Tryz.zeroValue22 rfl rfl g 3 2 c (by decide) (fun j hj => by
          obtain rfl | rfl : j = 0 ∨ j = 1 := by omega
          · show (zr.cell? ⟨g, 3, none⟩).isSome = true; rw [c3]; rfl
          · show (zr.cell? ⟨g, 4, none⟩).isSome = true; rw [c4]; rfl) (fun j hj => by
          obtain rfl | rfl : j = 0 ∨ j = 1 := by omega
          · exact f3
          · exact f4)
      have HR2 : Hid (RowF T ((zr.setCell ⟨g, 3, none⟩ (.float .f64 0)).setCell ⟨g, 4, none⟩ (.float .f64 0)) g [xM, 0, x3, 0, 0]) := Lib.hid ((HR.put 3 0 (by decide)).put 4 0 (by decide))
      have HX3 := Lib.hid ((HX2.out.set 3 (.float .f64 0)).set 4 (.float .f64 0))
      clear HR c3 c4 f3 f4
      generalize (zr.setCell ⟨g, 3, none⟩ (.float .f64 0)).setCell ⟨g, 4, none⟩ (.float .f64 0) = z4 at *
      go_wp2_with fail
      go_ret
      exact ⟨_, (fl [0, 0] ++ T), rfl, HR2.out, HX3.out⟩
end Go.Proofs.YtedllapajgcfeaaGreatDoor
