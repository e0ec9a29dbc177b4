/-
  internal/strconv.fmtEFG at any digits, the shortest of all: walked.
-/
import Derived.Test.YtedllapajgcfeaaGreatDoorWd
import Derived.Test.YtedllapajgcfeaaGreatDoorTFe
namespace Go.Proofs.YtedllapajgcfeaaGreatDoor
set_option linter.unusedVariables false
set_option linter.unusedSimpArgs false
open Go.RowKit Go.Proofs.YtedllapajgcfeaaGreatDoorW.PrintWords

/-- The row that is written, and the digits that are read. -/
structure St (base : Nat) (w0 : World) (g : Nat) (ds : List Int) (v : Value) (w : World) (T : List Int) : Prop where
  own : w.ownsRow base 5 1 v T.length (nums .u8 T)
  bel : Below base w0 w
  bse : base ≤ w.heap.size
  glt : g < w.heap.size
  gne : v.ownBlock ≠ some g
  dig : ∀ j, j < ds.length → w.cell? ⟨g, j, none⟩ = some (.int .u8 (ds.getD j 0))
  len : T.length ≤ 100
theorem St.step {base : Nat} {w0 : World} {g : Nat} {ds : List Int} {v v1 : Value} {w w1 : World} {T T' : List Int} (h : St base w0 g ds v w T) (ho : w1.ownsRow base 5 1 v1 T'.length (nums .u8 T')) (hb : Below base w0 w1) (hg : w.grownBy w1 v.ownBlock)
    (hat : v1.ownBlock = v.ownBlock ∨ ∃ b, v1.ownBlock = some b ∧ w.heap.size ≤ b) (hl : T'.length ≤ 100) : St base w0 g ds v1 w1 T' :=
  ⟨ho, hb, Nat.le_trans h.bse hg.size, Nat.lt_of_lt_of_le h.glt hg.size, keep_ne h.gne h.glt hat, fun j hj => (World.cell?_of_block (w := w) (hg.block g h.glt (fun e => h.gne e.symm))).trans (h.dig j hj), hl⟩
section
variable {ops : Array Oper} {rest : List Oper} {o : Oper} {a : Act} {Q : Exit → Act → World → Prop}
theorem st_num {base : Nat} {w0 W : World} {g : Nat} {ds T : List Int} {v : Value} (hgd : o.guard = none) (s x : Operand)
    (ho : o.op = .call { callee := .builtin .append, args := #[s, x], argTypes := #[66, 66] }) (y : Int) (hs : a.eval s = v) (hx : a.eval x = .slice (some ⟨W.heap.size, 0, none⟩) 1 1)
    (H : St base w0 g ds v W T) (hl : T.length < 100)
    (h : ∀ v1 w1, St base w0 g ds v1 w1 (T ++ [y]) → wpList Tryz.prog ops Q rest (a.put o.dst v1) w1) :
    wpList Tryz.prog ops Q (o :: rest) a (W.alloc (.cells #[.int .u8 y] 5)) :=
  print_append_num (w0 := w0) base hgd s x 66 5 .u8 1 ho Tryz.underlying66 (by kernel_rfl) (by omega) v T y hs hx H.own H.bel H.bse (by omega)
    fun v1 w1 ho hb hg hat => h v1 w1 (H.step ho hb hg hat (by simp; omega))
theorem st_row {base : Nat} {w0 W : World} {g : Nat} {ds T : List Int} {v : Value} (hgd : o.guard = none) (s x : Operand)
    (ho : o.op = .call { callee := .builtin .append, args := #[s, x], argTypes := #[66, 66] }) (i m c : Nat) (hs : a.eval s = v) (hx : a.eval x = .slice (some ⟨g, i, none⟩) m c)
    (H : St base w0 g ds v W T) (hm : i + m ≤ ds.length) (hl : T.length + m ≤ 100)
    (h : ∀ v1 w1, St base w0 g ds v1 w1 (T ++ (ds.drop i).take m) → wpList Tryz.prog ops Q rest (a.put o.dst v1) w1) :
    wpList Tryz.prog ops Q (o :: rest) a W := by
  have hlen : ((ds.drop i).take m).length = m := by simp; omega
  refine print_append_row (w0 := w0) base hgd s x 66 5 .u8 1 ho Tryz.underlying66 (by kernel_rfl) (by omega) v T ((ds.drop i).take m) (some ⟨g, i, none⟩) m c hs hx H.own ⟨hlen, by omega, fun _ => ⟨_, rfl, fun j hj => ?_⟩⟩ H.bel H.bse (by omega)
    fun v1 w1 ho hb hg hat => h v1 w1 (H.step ho hb hg hat (by simp; omega))
  have ha : (⟨g, i, none⟩ : Addr).add j = ⟨g, i + j, none⟩ := by unfold Addr.add; split <;> simp_all
  rw [ha]
  rw [H.dig (i + j) (by omega)]
  congr 2
  simp [List.getD_eq_getElem?_getD, List.getElem?_take, List.getElem?_drop, hj]
theorem st_lits {base : Nat} {w0 W : World} {g : Nat} {ds T : List Int} {v : Value} (hgd : o.guard = none) (s x : Operand)
    (ho : o.op = .call { callee := .builtin .append, args := #[s, x], argTypes := #[66, 66] }) (ys : List Int) (hs : a.eval s = v) (hx : a.eval x = .slice (some ⟨W.heap.size, 0, none⟩) ys.length ys.length)
    (H : St base w0 g ds v W T) (hl : T.length + ys.length ≤ 100)
    (h : ∀ v1 w1, St base w0 g ds v1 w1 (T ++ ys) → wpList Tryz.prog ops Q rest (a.put o.dst v1) w1) :
    wpList Tryz.prog ops Q (o :: rest) a (W.alloc (.cells (nums .u8 ys).toArray 5)) := by
  have hW : W.grownBy (W.alloc (.cells (nums .u8 ys).toArray 5)) v.ownBlock := World.grownBy_alloc W _ _
  refine print_append_row (w0 := w0) base hgd s x 66 5 .u8 1 ho Tryz.underlying66 (by kernel_rfl) (by omega) v T ys (some ⟨W.heap.size, 0, none⟩) ys.length ys.length hs hx (H.own.alloc _) ⟨rfl, by omega, fun _ => ⟨_, rfl, fun j hj => ?_⟩⟩ (H.bel.alloc H.bse _) (by have := H.bse; simp; omega) (by omega)
    fun v1 w1 ho hb hg hat => h v1 w1 (H.step ho hb (World.grownBy.trans hW hg) (by
      rcases hat with e | ⟨b, e, hb⟩
      · exact Or.inl e
      · exact Or.inr ⟨b, e, Nat.le_trans hW.size hb⟩) (by simp; omega))
  rw [add_plain]
  have hk : (W.alloc (.cells (nums .u8 ys).toArray 5)).heap[W.heap.size]? = some (.cells (nums .u8 ys).toArray 5 (0, 0)) := blk_new W _
  rw [blk_cell hk j]
  simp [nums, List.getElem?_eq_getElem hj, List.getD_eq_getElem?_getD]
end

def zs (n : Nat) : List Int := List.replicate n 48
def sgT (neg : Bool) : List Int := if neg then [45] else []
theorem zs_succ (n : Nat) : zs (n + 1) = zs n ++ [48] := by simp [zs, List.replicate_succ']
theorem take_succ' (ds : List Int) (n : Nat) (h : n < ds.length) : ds.take n ++ [ds[n]?.getD 0] = ds.take (n + 1) := by
  rw [List.take_add_one]
  simp [List.getD_eq_getElem?_getD, List.getElem?_eq_getElem h]
theorem drop_take_succ (ds : List Int) (p n : Nat) (h : p + n < ds.length) : (ds.drop p).take n ++ [ds[p + n]?.getD 0] = (ds.drop p).take (n + 1) := by
  rw [List.take_add_one, List.getElem?_drop]
  simp [List.getElem?_eq_getElem h]
/-- dd.ddd -/
def txB (neg : Bool) (p : Nat) (ds : List Int) : List Int := sgT neg ++ ds.take p ++ [46] ++ ds.drop p
/-- ddd000 -/
def txC (neg : Bool) (z : Nat) (ds : List Int) : List Int := sgT neg ++ ds ++ zs z
/-- 0.000ddd -/
def txA (neg : Bool) (z : Nat) (ds : List Int) : List Int := sgT neg ++ [48] ++ [46] ++ zs z ++ ds
set_option maxRecDepth 100000 in
set_option maxHeartbeats 6400000 in
theorem efg_A (neg : Bool) (v : Value) (base g : Nat) (ds : List Int) (k z : Nat) (w0 w : World) (H : St base w0 g ds v w []) (hk : ds.length = k) (hk1 : 1 ≤ k) (hk2 : k ≤ 17) (hz : z ≤ 3) :
    Calls Tryz.prog 60 #[v, .bool neg, .slice (some ⟨g, 0, none⟩) 32 32, .int .i64 (-(z : Int)), .int .i64 k, .int .i64 k, .int .u8 103, .bool true] w fun e w' => ∃ v', e = .returned v' ∧ St base w0 g ds v' w' (txA neg z ds) := by
  have HS := Lib.hid H
  have HK := Lib.hid hk
  clear H hk
  have x1 : max ((k : Int) + (z : Int)) 0 = (k : Int) + (z : Int) := by omega
  have x2 : max 0 (z : Int) = (z : Int) := by omega
  have x3 : min ((k : Int) + (z : Int)) (z : Int) = (z : Int) := by omega
  have x4 : max 0 (k : Int) = (k : Int) := by omega
  have x5 : min (k : Int) (k : Int) = (k : Int) := by omega
  have x6 : -(z : Int) + (z : Int) = 0 := by omega
  cases neg
  · go_enter Tryz.func60, Tryz.ntmps60
    go_wp2_with (at_builtin; first | (refine st_num rfl _ _ rfl 48 rfl rfl HS.out (by simp [zs, HK.out] <;> omega) ?_; intro v1 w1 H1; have HS1 := Lib.hid H1; clear H1) | (refine st_num rfl _ _ rfl 46 rfl rfl HS1.out (by simp [zs, HK.out] <;> omega) ?_; intro v2 w2 H2; have HS2 := Lib.hid H2; clear H2))
    go_loopw [0, 240] (fun d i wr => ∃ n : Nat, n ≤ z ∧ i = .int .i64 n ∧ St base w0 g ds d wr ([] ++ [48] ++ [46] ++ zs n)) (fun _ i _ => z - (RowKit.intOf i).toNat)
    case atStart => exact ⟨0, by omega, rfl, HS2.out⟩
    case round =>
      obtain ⟨n, hn, rfl, H3⟩ := hrel
      have HS3 := Lib.hid H3
      clear H3
      by_cases hnz : n < z
      · go_wp2_with (at_builtin; (refine st_num rfl _ _ rfl 48 rfl rfl HS3.out (by simp [zs, HK.out] <;> omega) ?_; intro v4 w4 H4; have HS4 := Lib.hid H4; clear H4))
        go_roundw
        case rel => exact ⟨n + 1, by omega, by go_num, by have := HS4.out; rw [List.append_assoc, ← zs_succ] at this; exact this⟩
        case measure => simp [RowKit.intOf]; omega
      · obtain rfl : n = z := by omega
        go_wp2_with fail
        go_loopw [0, 247] (fun d i wr => ∃ j : Nat, j ≤ k ∧ i = .int .i64 j ∧ St base w0 g ds d wr ([] ++ [48] ++ [46] ++ zs n ++ ds.take j)) (fun _ i _ => k - (RowKit.intOf i).toNat)
        case atStart => exact ⟨0, by omega, rfl, by rw [List.take_zero, List.append_nil]; exact HS3.out⟩
        case round =>
          obtain ⟨j, hj, rfl, H5⟩ := hrel
          have HS5 := Lib.hid H5
          clear H5
          by_cases hjk : j < k
          · have C := HS5.out.dig j (by rw [HK.out]; exact hjk)
            have i1 : (j : Int) < 32 := by omega
            have a1 := i64w ((0 : Int) + j) (by omega) (by omega)
            have a2 := i64w ((j : Int)) (by omega) (by omega)
            go_wp2_with (at_builtin; (refine st_num rfl _ _ rfl _ rfl rfl HS5.out (by simp [zs, HK.out] <;> omega) ?_; intro v6 w6 H6; have HS6 := Lib.hid H6; clear H6))
            go_roundw
            case rel => exact ⟨j + 1, by omega, by go_num, by have := HS6.out; rw [List.append_assoc, take_succ' ds j (by rw [HK.out]; exact hjk)] at this; exact this⟩
            case measure => simp [RowKit.intOf]; omega
          · obtain rfl : j = k := by omega
            go_wp2_with fail
            go_loopw [0, 261] (fun d i wr => i = .int .i64 0 ∧ St base w0 g ds d wr ([] ++ [48] ++ [46] ++ zs n ++ ds.take j)) (fun _ i _ => 0)
            case atStart => exact ⟨rfl, HS5.out⟩
            case round =>
              obtain ⟨rfl, H7⟩ := hrel
              have HS7 := Lib.hid H7
              clear H7
              go_wp2_with fail
              go_ret
              refine ⟨_, rfl, ?_⟩
              have := HS7.out
              rw [← HK.out, List.take_length] at this
              exact this
  · go_enter Tryz.func60, Tryz.ntmps60
    go_wp2_with (at_builtin; first | (refine st_num rfl _ _ rfl 45 rfl rfl HS.out (by simp [zs, HK.out] <;> omega) ?_; intro v9 w9 H9; have HS9 := Lib.hid H9; clear H9) | (refine st_num rfl _ _ rfl 48 rfl rfl HS9.out (by simp [zs, HK.out] <;> omega) ?_; intro v1 w1 H1; have HS1 := Lib.hid H1; clear H1) | (refine st_num rfl _ _ rfl 46 rfl rfl HS1.out (by simp [zs, HK.out] <;> omega) ?_; intro v2 w2 H2; have HS2 := Lib.hid H2; clear H2))
    go_loopw [0, 240] (fun d i wr => ∃ n : Nat, n ≤ z ∧ i = .int .i64 n ∧ St base w0 g ds d wr ([] ++ [45] ++ [48] ++ [46] ++ zs n)) (fun _ i _ => z - (RowKit.intOf i).toNat)
    case atStart => exact ⟨0, by omega, rfl, HS2.out⟩
    case round =>
      obtain ⟨n, hn, rfl, H3⟩ := hrel
      have HS3 := Lib.hid H3
      clear H3
      by_cases hnz : n < z
      · go_wp2_with (at_builtin; (refine st_num rfl _ _ rfl 48 rfl rfl HS3.out (by simp [zs, HK.out] <;> omega) ?_; intro v4 w4 H4; have HS4 := Lib.hid H4; clear H4))
        go_roundw
        case rel => exact ⟨n + 1, by omega, by go_num, by have := HS4.out; rw [List.append_assoc, ← zs_succ] at this; exact this⟩
        case measure => simp [RowKit.intOf]; omega
      · obtain rfl : n = z := by omega
        go_wp2_with fail
        go_loopw [0, 247] (fun d i wr => ∃ j : Nat, j ≤ k ∧ i = .int .i64 j ∧ St base w0 g ds d wr ([] ++ [45] ++ [48] ++ [46] ++ zs n ++ ds.take j)) (fun _ i _ => k - (RowKit.intOf i).toNat)
        case atStart => exact ⟨0, by omega, rfl, by rw [List.take_zero, List.append_nil]; exact HS3.out⟩
        case round =>
          obtain ⟨j, hj, rfl, H5⟩ := hrel
          have HS5 := Lib.hid H5
          clear H5
          by_cases hjk : j < k
          · have C := HS5.out.dig j (by rw [HK.out]; exact hjk)
            have i1 : (j : Int) < 32 := by omega
            have a1 := i64w ((0 : Int) + j) (by omega) (by omega)
            have a2 := i64w ((j : Int)) (by omega) (by omega)
            go_wp2_with (at_builtin; (refine st_num rfl _ _ rfl _ rfl rfl HS5.out (by simp [zs, HK.out] <;> omega) ?_; intro v6 w6 H6; have HS6 := Lib.hid H6; clear H6))
            go_roundw
            case rel => exact ⟨j + 1, by omega, by go_num, by have := HS6.out; rw [List.append_assoc, take_succ' ds j (by rw [HK.out]; exact hjk)] at this; exact this⟩
            case measure => simp [RowKit.intOf]; omega
          · obtain rfl : j = k := by omega
            go_wp2_with fail
            go_loopw [0, 261] (fun d i wr => i = .int .i64 0 ∧ St base w0 g ds d wr ([] ++ [45] ++ [48] ++ [46] ++ zs n ++ ds.take j)) (fun _ i _ => 0)
            case atStart => exact ⟨rfl, HS5.out⟩
            case round =>
              obtain ⟨rfl, H7⟩ := hrel
              have HS7 := Lib.hid H7
              clear H7
              go_wp2_with fail
              go_ret
              refine ⟨_, rfl, ?_⟩
              have := HS7.out
              rw [← HK.out, List.take_length] at this
              exact this
end Go.Proofs.YtedllapajgcfeaaGreatDoor
