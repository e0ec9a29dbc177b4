/-
  AbnfKnown: walked.
-/
import Derived.Test.YtckcgiimeaklcaaDoorLa
namespace Go.Proofs.YtckcgiimeaklcaaDoor
set_option linter.unusedVariables false
set_option linter.unusedSimpArgs false
open Go.RowKit Go.Proofs.YtckcgiimeaklcaaDoorW.PrintWords
open Ab (T El R Rs sz rootI post els root hasR szs Tb TT)
def knL : List (List UInt8) := [[97, 32, 61, 32, 34, 120], [97, 32, 61, 32, 50, 42, 49, 34, 120, 34], [97], [97, 32, 61], [61, 32, 98], [49, 97, 32, 61, 32, 34, 120, 34], [97, 32, 61, 32, 37, 120, 52], [97, 32, 61, 32, 37, 120, 52, 50, 45, 52, 49], [97, 32, 61, 32, 40, 34, 120, 34], [97, 32, 61, 32, 34, 120, 34, 32, 41], [97, 32, 61, 32, 49, 32, 34, 120, 34], [97, 32, 61, 32, 49, 48, 48, 34, 120, 34], [97, 32, 61, 32, 47, 32, 34, 120, 34], [97, 32, 61, 32, 37, 100, 52, 49], [97, 32, 61, 32, 91, 93], [97, 32, 61, 61, 32, 98], [9, 97, 32, 61, 32, 34, 120, 34]]
def isBad (r : Ab.Rd) (i e : Int) : Bool := match r with
  | .bad a b => a == i && b == e
  | .good _ _ => false
theorem isBad_iff {r : Ab.Rd} {i e : Int} (h : isBad r i e = true) : r = .bad i e := by
  cases r with
  | good _ _ => cases h
  | bad a b =>
    simp only [isBad, Bool.and_eq_true, beq_iff_eq] at h
    rw [h.1, h.2]
theorem knL_bad : ∀ k : Fin 17, isBad (Ab.read (knL.getD k.1 [])) 1 8 = true := by decide +kernel
section
variable {W : World}
theorem read_bad (text : List UInt8) (i x : Int) (m : Int) (hm : W.cell? ⟨0, 0, none⟩ = some (.int .i64 m)) (h : isBad (Ab.read text) i x = true) :
    Calls Tryd.prog 5 #[.string ⟨text.toArray⟩] W fun e w' => e = .returned (.tuple #[.pointer none, .int .i64 i, .int .i64 x]) ∧ Below W.heap.size W w' := by
  refine (read_any text m hm).mono ?_
  rintro e w' ⟨hb, h2⟩
  rw [isBad_iff h] at h2
  exact ⟨h2, hb⟩
theorem read_good (text : List UInt8) (rs : Rs) (m : Int) (hm : W.cell? ⟨0, 0, none⟩ = some (.int .i64 m)) (h : (match Ab.read text with | .good r _ => decide (r = rs) | .bad _ _ => false) = true) :
    Calls Tryd.prog 5 #[.string ⟨text.toArray⟩] W fun e w' => ∃ gg bm A c vL, e = .returned (.tuple #[.pointer (some ⟨gg, 0, none⟩), .int .i64 0, .int .i64 0]) ∧ GramAt w' gg bm (els 0 rs) rs A c vL ∧ Below W.heap.size W w' := by
  refine (read_any text m hm).mono ?_
  rintro e w' ⟨hb, h2⟩
  cases hr : Ab.read text with
  | bad i x => rw [hr] at h; cases h
  | good r ln =>
    rw [hr] at h h2
    obtain rfl : r = rs := by simpa using h
    obtain ⟨gg, bm, A, c, vL, h3, h4, _⟩ := h2
    exact ⟨gg, bm, A, c, vL, h3, h4, hb⟩
set_option maxRecDepth 100000 in
set_option maxHeartbeats 6400000 in
theorem known_any (m : Int) (hm : W.cell? ⟨0, 0, none⟩ = some (.int .i64 m)) : Calls Tryd.prog 3 #[] W fun e w' => e = .returned (.bool true) ∧ Below W.heap.size W w' := by
  have HMM := Lib.hid (fun (z : World) (B : Below W.heap.size W z) => pw_cell_below B hm)
  have HMK : ∀ W : World, (Instr.makeSlice 29 (.int .i64 121) (.int .i64 121)).run Tryd.prog W = .ok (.slice (some ⟨W.heap.size, 0, none⟩) 121 121) (W.alloc (.cells (madeCells #[.int .u8 0] 121) 5)) := print_make (P := Tryd.prog) 29 5 .u8 1 Tryd.underlying29 (by kernel_rfl) (by decide) 121 (by decide)
  have HCV : ∀ W : World, (convert 29 9 (.slice (some ⟨W.heap.size, 0, none⟩) 121 121)).run Tryd.prog (W.alloc (.cells (madeCells #[.int .u8 0] 121) 5)) = .ok (.string ⟨(List.replicate 121 (0 : UInt8)).toArray⟩) (W.alloc (.cells (madeCells #[.int .u8 0] 121) 5)) := by
    intro W
    have h1 := own_string (P := Tryd.prog) Tryd.underlying29 Tryd.underlying5 Tryd.underlying9 (own_made W 0 5 .u8 121 (by omega) (by decide))
    have h2 : (List.replicate 121 (0 : Int)) = bts (List.replicate 121 (0 : UInt8)) := by simp [bts]
    rw [h2, strOf_bts] at h1
    exact h1
  have H121 := Lib.hid (show 120 < (List.replicate 121 (0 : UInt8)).length by simp)
  generalize List.replicate 121 (0 : UInt8) = w121 at HCV H121
  clear hm
  go_enter Tryd.func3, Tryd.ntmps3
  go_wp2_with fail
  obtain ⟨W1, hW1⟩ : ∃ z, z = W.alloc (.cells (knL.map fun s => Value.string ⟨s.toArray⟩).toArray 9) := ⟨_, rfl⟩
  have HBK : Hid (W1.heap[W.heap.size]? = some (.cells (knL.map fun s => Value.string ⟨s.toArray⟩).toArray 9 (0, 0))) := Lib.hid (by rw [hW1]; exact blk_new W _)
  have HB : Hid (Below W.heap.size W W1) := Lib.hid (by rw [hW1]; exact (Below.refl _ _).alloc (Nat.le_refl _) _)
  have hW2 : W1 = W.alloc (.cells #[.string ⟨[97, 32, 61, 32, 34, 120].toArray⟩, .string ⟨[97, 32, 61, 32, 50, 42, 49, 34, 120, 34].toArray⟩, .string ⟨[97].toArray⟩, .string ⟨[97, 32, 61].toArray⟩, .string ⟨[61, 32, 98].toArray⟩, .string ⟨[49, 97, 32, 61, 32, 34, 120, 34].toArray⟩, .string ⟨[97, 32, 61, 32, 37, 120, 52].toArray⟩, .string ⟨[97, 32, 61, 32, 37, 120, 52, 50, 45, 52, 49].toArray⟩, .string ⟨[97, 32, 61, 32, 40, 34, 120, 34].toArray⟩, .string ⟨[97, 32, 61, 32, 34, 120, 34, 32, 41].toArray⟩, .string ⟨[97, 32, 61, 32, 49, 32, 34, 120, 34].toArray⟩, .string ⟨[97, 32, 61, 32, 49, 48, 48, 34, 120, 34].toArray⟩, .string ⟨[97, 32, 61, 32, 47, 32, 34, 120, 34].toArray⟩, .string ⟨[97, 32, 61, 32, 37, 100, 52, 49].toArray⟩, .string ⟨[97, 32, 61, 32, 91, 93].toArray⟩, .string ⟨[97, 32, 61, 61, 32, 98].toArray⟩, .string ⟨[9, 97, 32, 61, 32, 34, 120, 34].toArray⟩] 9) := hW1
  rw [← hW2]
  clear hW1 hW2
  obtain ⟨q, hq⟩ : ∃ q, W.heap.size = q := ⟨_, rfl⟩
  have HQ := Lib.hid hq
  rw [hq] at HBK ⊢
  clear hq
  go_loopw [30] (fun v wr => ∃ k : Nat, v = .int .i64 k ∧ k ≤ 17 ∧ Hid (Below W.heap.size W wr) ∧ Hid (Below (q + 1) W1 wr)) (fun v _ => 17 - (RowKit.intOf v).toNat)
  case atStart => exact ⟨0, rfl, by omega, HB, Lib.hid (Below.refl _ _)⟩
  case round =>
    clear HB
    obtain ⟨k, rfl, hk, HB, HB1⟩ := hrel
    by_cases hlt : k < 17
    · have t1 : decide ((k : Int) < 17) = true := decide_eq_true (by omega)
      have k2 : (k : Int) < 17 := by omega
      have k3 : (0 : Int) ≤ (k : Int) := by omega
      have wk1 : IntKind.i64.wrap ((k : Int) + 1) = (k : Int) + 1 := IntWalk.i64_in _ (by omega)
      have hc : wr.cell? ⟨q, k, none⟩ = some (.string ⟨(knL.getD k []).toArray⟩) := by
        have hl : knL.length = 17 := rfl
        rw [blk_cell ((HB1.out.block q (by omega)).trans HBK.out) k]
        rw [List.getElem?_toArray, List.getElem?_map, List.getElem?_eq_getElem (by omega), List.getD_eq_getElem?_getD, List.getElem?_eq_getElem (by omega)]
        rfl
      have hbad := knL_bad ⟨k, hlt⟩
      have HBAD : Hid (isBad (Ab.read (knL.getD k [])) 1 8 = true) := Lib.hid hbad
      clear hbad hlt
      generalize knL.getD k [] = s at hc HBAD
      go_wp2_with fail
      refine (read_bad s 1 8 m (HMM.out _ HB.out) HBAD.out).mono ?_
      rintro e w1 ⟨rfl, B1⟩
      have hsz : q + 1 ≤ wr.heap.size := Nat.le_trans (blk_lt HBK.out) HB1.out.size
      have HB' := Lib.hid (bthen HB.out B1)
      have HB1' := Lib.hid (HB1.out.trans (B1.mono hsz))
      clear B1 hsz
      go_wp2_with fail
      go_roundw
      case rel => exact ⟨k + 1, by go_num, by omega, HB', HB1'⟩
      case measure => simp [RowKit.intOf] <;> omega
    · obtain rfl : k = 17 := by omega
      clear hlt HB1 HBK
      go_wp2_with fail
      refine (read_bad _ 1 4 m (HMM.out _ HB.out) (by kernel_rfl)).mono ?_
      rintro e w1 ⟨rfl, B1⟩
      replace HB := Lib.hid (bthen HB.out B1)
      clear B1
      go_wp2_with fail
      refine (read_bad _ 4 8 m (HMM.out _ HB.out) (by kernel_rfl)).mono ?_
      rintro e w1 ⟨rfl, B1⟩
      replace HB := Lib.hid (bthen HB.out B1)
      clear B1
      go_wp2_with fail
      refine (read_bad _ 1 3 m (HMM.out _ HB.out) (by kernel_rfl)).mono ?_
      rintro e w1 ⟨rfl, B1⟩
      replace HB := Lib.hid (bthen HB.out B1)
      clear B1
      go_wp2_with fail
      refine (read_good _ [] m (HMM.out _ HB.out) (by kernel_rfl)).mono ?_
      rintro e w1 ⟨g1, b1, A1, c1, v1, rfl, hG1, B1⟩
      replace HB := Lib.hid (bthen HB.out B1)
      have HG1 := Lib.hid hG1
      clear hG1 B1
      go_wp2_with fail
      refine (derives_none HG1.out [97] (by decide) _ rfl).mono ?_
      rintro e w2 ⟨rfl, rfl⟩
      go_wp2_with fail
      refine (derives_nil _ _ _).mono ?_
      rintro e w3 ⟨rfl, rfl⟩
      go_wp2_with fail
      refine (read_good _ [([97], .oft (.txt [120]) 0 (-1))] m (HMM.out _ HB.out) (by kernel_rfl)).mono ?_
      rintro e w4 ⟨g2, b2, A2, c2, v2, rfl, hG2, B2⟩
      replace HB := Lib.hid (bthen HB.out B2)
      have HG2 := Lib.hid hG2
      clear hG2 B2
      go_wp2_with fail
      have HBA : Hid (Below w4.heap.size w4 (w4.alloc (.cells (madeCells #[.int .u8 0] 121) 5))) := Lib.hid ((Below.refl _ _).alloc (Nat.le_refl _) _)
      replace HG2 := Lib.hid (HG2.out.below HBA.out)
      replace HB := Lib.hid (bthen HB.out HBA.out)
      clear HBA
      refine (derives_long HG2.out [97] (by decide) w121 H121.out rfl).mono ?_
      rintro e w5 ⟨rfl, rfl⟩
      generalize w4.alloc (.cells (madeCells #[.int .u8 0] 121) 5) = w5 at HG2 HB ⊢
      go_wp2_with fail
      refine (has_nil _).mono ?_
      rintro e w6 ⟨rfl, rfl⟩
      go_wp2_with fail
      refine (has_any [97] (by decide) HG2.out.cells.2.1 HG2.out.map).mono ?_
      rintro e w6 ⟨rfl, rfl⟩
      rw [show hasR [([97], T.oft (.txt [120]) 0 (-1))] [97] = true from rfl]
      go_wp2_with fail
      refine (has_any [65] (by decide) HG2.out.cells.2.1 HG2.out.map).mono ?_
      rintro e w6 ⟨rfl, rfl⟩
      rw [show hasR [([97], T.oft (.txt [120]) 0 (-1))] [65] = false from rfl]
      go_wp2_with fail
      refine (derives_ok _ _ _ true 30 m (HMM.out _ HB.out) (by decide) (by decide) (by kernel_rfl)).mono ?_
      rintro e w1 ⟨rfl, B1⟩
      replace HB := Lib.hid (bthen HB.out B1)
      clear B1
      go_wp2_with fail
      refine (derives_ok _ _ _ true 30 m (HMM.out _ HB.out) (by decide) (by decide) (by kernel_rfl)).mono ?_
      rintro e w1 ⟨rfl, B1⟩
      replace HB := Lib.hid (bthen HB.out B1)
      clear B1
      go_wp2_with fail
      refine (derives_ok _ _ _ false 30 m (HMM.out _ HB.out) (by decide) (by decide) (by kernel_rfl)).mono ?_
      rintro e w1 ⟨rfl, B1⟩
      replace HB := Lib.hid (bthen HB.out B1)
      clear B1
      go_wp2_with fail
      refine (derives_ok _ _ _ true 30 m (HMM.out _ HB.out) (by decide) (by decide) (by kernel_rfl)).mono ?_
      rintro e w1 ⟨rfl, B1⟩
      replace HB := Lib.hid (bthen HB.out B1)
      clear B1
      go_wp2_with fail
      refine (derives_ok _ _ _ true 30 m (HMM.out _ HB.out) (by decide) (by decide) (by kernel_rfl)).mono ?_
      rintro e w1 ⟨rfl, B1⟩
      replace HB := Lib.hid (bthen HB.out B1)
      clear B1
      go_wp2_with fail
      refine (derives_ok _ _ _ true 30 m (HMM.out _ HB.out) (by decide) (by decide) (by kernel_rfl)).mono ?_
      rintro e w1 ⟨rfl, B1⟩
      replace HB := Lib.hid (bthen HB.out B1)
      clear B1
      go_wp2_with fail
      refine (derives_ok _ _ _ false 30 m (HMM.out _ HB.out) (by decide) (by decide) (by kernel_rfl)).mono ?_
      rintro e w1 ⟨rfl, B1⟩
      replace HB := Lib.hid (bthen HB.out B1)
      clear B1
      go_wp2_with fail
      refine (derives_ok _ _ _ true 30 m (HMM.out _ HB.out) (by decide) (by decide) (by kernel_rfl)).mono ?_
      rintro e w1 ⟨rfl, B1⟩
      replace HB := Lib.hid (bthen HB.out B1)
      clear B1
      go_wp2_with fail
      refine (derives_ok _ _ _ true 30 m (HMM.out _ HB.out) (by decide) (by decide) (by kernel_rfl)).mono ?_
      rintro e w1 ⟨rfl, B1⟩
      replace HB := Lib.hid (bthen HB.out B1)
      clear B1
      go_wp2_with fail
      refine (awake_any m (HMM.out _ HB.out)).mono ?_
      rintro e w7 ⟨rfl, B7⟩
      replace HB := Lib.hid (bthen HB.out B7)
      clear B7
      go_wp2_with fail
      go_ret
      exact ⟨rfl, HB.out⟩
theorem known_row (W : World) (h : ∃ m, W.cell? ⟨0, 0, none⟩ = some (.int .i64 m)) : Calls Tryd.prog 3 #[] W fun e w' => e = .returned (.bool true) ∧ Below W.heap.size W w' :=
  let ⟨m, hm⟩ := h
  known_any m hm
end
end Go.Proofs.YtckcgiimeaklcaaDoor
