/-
  internal/strconv.fmtEFG at the number 0.1: it appends 0.1.
-/
import Derived.Test.YtedllapajgcfeaaGreatDoorTFd
namespace Go.Proofs.YtedllapajgcfeaaGreatDoor
open Go.RowKit Go.Proofs.YtedllapajgcfeaaGreatDoorW.PrintWords

theorem keep_cell {W w1 : World} {v x : Value} {g : Nat} (hg : W.grownBy w1 v.ownBlock) (hne : v.ownBlock ≠ some g) (hlt : g < W.heap.size) (C : W.cell? ⟨g, 0, none⟩ = some x) : w1.cell? ⟨g, 0, none⟩ = some x :=
  (World.cell?_of_block (w := W) (hg.block g hlt (fun e => hne e.symm))).trans C
theorem keep_ne {W : World} {v v1 : Value} {g : Nat} (hne : v.ownBlock ≠ some g) (hlt : g < W.heap.size) (hat : v1.ownBlock = v.ownBlock ∨ ∃ b, v1.ownBlock = some b ∧ W.heap.size ≤ b) : v1.ownBlock ≠ some g := by
  rcases hat with e | ⟨b, e, hb⟩
  · rw [e]; exact hne
  · rw [e]; intro h; injection h with h; omega
set_option maxRecDepth 100000 in
set_option maxHeartbeats 3200000 in
theorem efg_1 (v : Value) (base g : Nat) (w0 w : World) (HO : w.ownsRow base 5 1 v 0 (nums .u8 [])) (HB : Below base w0 w) (hbase : base ≤ w.heap.size) (C0 : w.cell? ⟨g, 0, none⟩ = some (.int .u8 49)) (hlt : g < w.heap.size) (hne : v.ownBlock ≠ some g) : Calls Tryz.prog 60 #[v, .bool false, .slice (some ⟨g, 0, none⟩) 32 32, .int .i64 0, .int .i64 1, .int .i64 1, .int .u8 103, .bool true] w fun e w' => ∃ v', e = .returned v' ∧ w'.ownsRow base 5 1 v' 3 (nums .u8 [48, 46, 49]) ∧ Below base w0 w' := by
  replace C0 := Lib.hid C0
  replace HO := Lib.hid HO
  replace HB := Lib.hid HB
  replace hne := Lib.hid hne
  replace hlt := Lib.hid hlt
  replace hbase := Lib.hid hbase
  have m1 : max (1 : Int) 0 = 1 := by decide
  have m2 : min (1 : Int) 0 = 0 := by decide
  have m3 : max (0 : Int) 1 = 1 := by decide
  have m4 : min (1 : Int) 1 = 1 := by decide
  have m5 : max (0 : Int) 0 = 0 := by decide
  go_enter Tryz.func60, Tryz.ntmps60
  go_wp2_with (at_builtin; first | (refine print_append_num (w0 := w0) base rfl _ _ _ 5 .u8 1 rfl Tryz.underlying66 (by kernel_rfl) (by omega) v [] 48 rfl rfl (by exact HO.out) (by exact HB.out) hbase.out (by simp) ?_; intro v1 w1 HO1 HB1 hg1 hat1; have C1 := Lib.hid (keep_cell hg1 hne.out hlt.out C0.out); have n1 := Lib.hid (keep_ne hne.out hlt.out hat1); have l1 := Lib.hid (Nat.lt_of_lt_of_le hlt.out hg1.size); have b1 := Lib.hid (Nat.le_trans hbase.out hg1.size); replace HO1 := Lib.hid HO1; replace HB1 := Lib.hid HB1; clear hg1 hat1 HO HB C0 hne hlt hbase) | (refine print_append_num (w0 := w0) base rfl _ _ _ 5 .u8 1 rfl Tryz.underlying66 (by kernel_rfl) (by omega) _ ([] ++ [48]) 46 rfl rfl (by exact HO1.out) (by exact HB1.out) b1.out (by decide) ?_; intro v2 w2 HO2 HB2 hg2 hat2; have C2 := Lib.hid (keep_cell hg2 n1.out l1.out C1.out); have n2 := Lib.hid (keep_ne n1.out l1.out hat2); have l2 := Lib.hid (Nat.lt_of_lt_of_le l1.out hg2.size); have b2 := Lib.hid (Nat.le_trans b1.out hg2.size); replace HO2 := Lib.hid HO2; replace HB2 := Lib.hid HB2; clear hg2 hat2 HO1 HB1 C1 n1 l1 b1))
  go_loopw [0, 240] (fun d i wr => v2 = d ∧ i = .int .i64 0 ∧ w2 = wr) (fun _ _ _ => 0)
  case atStart => exact ⟨rfl, rfl, rfl⟩
  case round =>
    obtain ⟨rfl, rfl, rfl⟩ := hrel
    go_wp2_with fail
    go_loopw [0, 247] (fun d i wr => (v2 = d ∧ i = .int .i64 0 ∧ w2 = wr) ∨ (i = .int .i64 1 ∧ wr.ownsRow base 5 1 d 3 (nums .u8 [48, 46, 49]) ∧ Below base w0 wr)) (fun _ i _ => 1 - (RowKit.intOf i).toNat)
    case atStart => exact Or.inl ⟨rfl, rfl, rfl⟩
    case round =>
      rcases hrel with ⟨rfl, rfl, rfl⟩ | ⟨rfl, HO3, HB3⟩
      · have CC := C2.out
        have i1 : (0 : Int) < 32 := by omega
        go_wp2_with (at_builtin; refine print_append_num (w0 := w0) base rfl _ _ _ 5 .u8 1 rfl Tryz.underlying66 (by kernel_rfl) (by omega) _ [48, 46] 49 rfl rfl (by exact HO2.out) (by exact HB2.out) b2.out (by simp) ?_; intro v3 w3 HO3 HB3 hg3 hat3; replace HO3 := Lib.hid HO3; replace HB3 := Lib.hid HB3; clear hg3 hat3 CC)
        go_roundw
        case rel => exact Or.inr ⟨by go_num, HO3.out, HB3.out⟩
        case measure => simp [RowKit.intOf]
      · replace HO3 := Lib.hid HO3
        replace HB3 := Lib.hid HB3
        go_wp2_with fail
        go_loopw [0, 261] (fun d i wr => i = .int .i64 0 ∧ wr.ownsRow base 5 1 d 3 (nums .u8 [48, 46, 49]) ∧ Below base w0 wr) (fun _ _ _ => 0)
        case atStart => exact ⟨rfl, HO3.out, HB3.out⟩
        case round =>
          obtain ⟨rfl, HO4, HB4⟩ := hrel
          replace HO4 := Lib.hid HO4
          replace HB4 := Lib.hid HB4
          go_wp2_with fail
          go_ret
          exact ⟨_, rfl, HO4.out, HB4.out⟩
end Go.Proofs.YtedllapajgcfeaaGreatDoor
