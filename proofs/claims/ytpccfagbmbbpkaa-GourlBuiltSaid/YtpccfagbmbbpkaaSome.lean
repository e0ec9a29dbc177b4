/-
  Package gourl: sets of bytes, schemes, ports, escapes, hosts.
-/
import Derived.Test.YtpccfagbmbbpkaaOf
import Derived.Test.YtpccfagbmbbpkaaShf
import Derived.Outline
namespace Go.Proofs.Ytpccfagbmbbpkaa
open Go.RowKit Go.Proofs.YtpccfagbmbbpkaaW.PrintWords

/-- The four cells of a set in a block of the call's own. -/
def FourAt (b : World) (g : Nat) (s : W4) (x : World) : Prop := Below b.heap.size b x ∧ x.heap[g]? = some (.cells #[.int .u64 s.a, .int .u64 s.b, .int .u64 s.c, .int .u64 s.d] 34 (0, 0))
theorem fourAt_cells {b : World} {g : Nat} {s : W4} {x : World} (h : FourAt b g s x) : x.cell? ⟨g, 0, none⟩ = some (.int .u64 s.a) ∧ x.cell? ⟨g, 1, none⟩ = some (.int .u64 s.b) ∧ x.cell? ⟨g, 2, none⟩ = some (.int .u64 s.c) ∧ x.cell? ⟨g, 3, none⟩ = some (.int .u64 s.d) := by
  have K := h.2
  have c0 := blk_cell K 0
  have c1 := blk_cell K 1
  have c2 := blk_cell K 2
  have c3 := blk_cell K 3
  simp at c0 c1 c2 c3
  exact ⟨c0, c1, c2, c3⟩
theorem FourAt.drew {b : World} {g : Nat} {s : W4} {x : World} (h : FourAt b g s x) : FourAt b g s x.drew := ⟨Below.drew h.1, h.2⟩
theorem FourAt.call {b : World} {g : Nat} {s : W4} {x y : World} (h : FourAt b g s x) (c : Below x.heap.size x y) : FourAt b g s y := ⟨h.1.trans (c.mono h.1.size), (c.block _ (blk_lt h.2)).trans h.2⟩
theorem four_call {b : World} {g : Nat} {s : W4} {x y : World} {R : Prop} (h : FourAt b g s x ∧ R) (c : Below x.heap.size x y) : FourAt b g s y ∧ y.cell? ⟨g, 0, none⟩ = some (.int .u64 s.a) ∧ y.cell? ⟨g, 1, none⟩ = some (.int .u64 s.b) ∧ y.cell? ⟨g, 2, none⟩ = some (.int .u64 s.c) ∧ y.cell? ⟨g, 3, none⟩ = some (.int .u64 s.d) := ⟨h.1.call c, fourAt_cells (h.1.call c)⟩

set_option maxHeartbeats 800000 in
theorem plain_any (w : World) : Calls Try.prog 49 #[] w fun e w' => e = .returned (.agg #[.int .u64 Gu.PL.a, .int .u64 Gu.PL.b, .int .u64 Gu.PL.c, .int .u64 Gu.PL.d]) ∧ Below w.heap.size w w' := by
  go_enter Try.func49, Try.ntmps49
  go_wp2_with fail
  refine (range_any 48 57 (by omega) (by omega) _).mono ?_
  rintro e w1 ⟨rfl, B1⟩
  go_wp2_with fail
  refine (range_any 97 122 (by omega) (by omega) _).mono ?_
  rintro e w2 ⟨rfl, B2⟩
  go_wp2_with fail
  refine (range_any 65 90 (by omega) (by omega) _).mono ?_
  rintro e w3 ⟨rfl, B3⟩
  go_wp2_with fail
  refine (or_any _ _ (W4.ok_range _ _) (W4.ok_range _ _) _).mono ?_
  rintro e w4 ⟨rfl, B4⟩
  go_wp2_with fail
  refine (or_any _ _ (W4.ok_range _ _) (W4.ok_or (W4.ok_range _ _) (W4.ok_range _ _)) _).mono ?_
  rintro e w5 ⟨rfl, B5⟩
  have K := blk_below (blk_below (blk_below (blk_below (blk_below (blk_new w _) B1) B2) B3) B4) B5
  have HB : Below w.heap.size w w5 := ((Below.refl _ _).alloc (Nat.le_refl _) _).trans ((bthen (bthen (bthen (bthen B1 B2) B3) B4) B5).mono (by simp))
  clear B1 B2 B3 B4 B5
  have c0 := blk_cell K 0
  have c1 := blk_cell K 1
  have c2 := blk_cell K 2
  have c3 := blk_cell K 3
  have f0 := blk_frozen K 0
  have f1 := blk_frozen K 1
  have f2 := blk_frozen K 2
  have f3 := blk_frozen K 3
  simp at c0 c1 c2 c3
  clear K
  go_wp2_with fail
  exact bodyPost_ret (v := .agg #[.int .u64 Gu.PL.a, .int .u64 Gu.PL.b, .int .u64 Gu.PL.c, .int .u64 Gu.PL.d]) (by simp [results, Try.results49, go_sem, Gu.PL, c0, c1, c2, c3]) rfl ⟨rfl, by (repeat (first | exact Below.refl _ _ | assumption | refine Below.drew ?_ | refine Below.alloc ?_ (by first | exact Nat.le_refl _ | (simp; done) | (simp; omega) | omega) _ | refine Below.setCell ?_ (by first | exact Nat.le_refl _ | (simp; done) | (simp; omega) | omega) _))⟩

theorem bytes_bat {w w' : World} {e : TypeId} {l : List UInt8} (B : Below (Lib.bytesWorld w e ⟨l.toArray⟩).heap.size (Lib.bytesWorld w e ⟨l.toArray⟩) w') : BAt w' w.heap.size l := by
  intro j hj
  have h := (BRow.made w e l)
  exact (B.cell (p := ⟨w.heap.size, j, none⟩) h.1).trans (h.2 j hj).1
set_option maxHeartbeats 800000 in
theorem some_any (l : Pc.B) (hl : l.length ≤ 1000) (w : World) : Calls Try.prog 37 #[.string ⟨l.toArray⟩] w fun e w' => e = .returned (.agg #[.int .u64 (Gu.SM l).a, .int .u64 (Gu.SM l).b, .int .u64 (Gu.SM l).c, .int .u64 (Gu.SM l).d]) ∧ Below w.heap.size w w' := by
  have hcv0 := fun W => Lib.run_convert_string_bytes (P := Try.prog) W 9 54 5 ⟨l.toArray⟩ Try.underlying9 Try.underlying54 Try.underlying5
  go_enter Try.func37, Try.ntmps37
  go_wp2_with fail
  refine (plain_any _).mono ?_
  rintro e w1 ⟨rfl, B1⟩
  go_wp2_with fail
  have hb0 : w1.heap.size < (Lib.bytesWorld w1 5 ⟨l.toArray⟩).heap.size := by rw [Lib.bytesWorld_size]; omega
  have hbt : BAt (Lib.bytesWorld w1 5 ⟨l.toArray⟩) w1.heap.size l := fun j hj => ((BRow.made w1 5 l).2 j hj).1
  have B2 : Below w1.heap.size w1 (Lib.bytesWorld w1 5 ⟨l.toArray⟩) := bytes_below (Below.refl _ _) (Nat.le_refl _) _ _
  generalize Lib.bytesWorld w1 5 ⟨l.toArray⟩ = w2 at hb0 hbt B2 ⊢
  refine (of_any w1.heap.size _ l (by omega) _ hb0 hbt).mono ?_
  rintro e w3 ⟨rfl, B3⟩
  clear hcv0 hbt
  go_wp2_with fail
  refine (or_any _ _ Gu.ok_PL (W4.ok_ofList _) _).mono ?_
  rintro e w4 ⟨rfl, B4⟩
  have K := blk_below (blk_below (blk_below (blk_below (blk_new w _) B1) B2) B3) B4
  have HB : Below w.heap.size w w4 := ((Below.refl _ _).alloc (Nat.le_refl _) _).trans ((bthen (bthen (bthen B1 B2) B3) B4).mono (by simp))
  clear B1 B2 B3 B4
  have c0 := blk_cell K 0
  have c1 := blk_cell K 1
  have c2 := blk_cell K 2
  have c3 := blk_cell K 3
  have f0 := blk_frozen K 0
  have f1 := blk_frozen K 1
  have f2 := blk_frozen K 2
  have f3 := blk_frozen K 3
  simp at c0 c1 c2 c3
  clear K
  go_wp2_with fail
  exact bodyPost_ret (v := .agg #[.int .u64 (Gu.SM l).a, .int .u64 (Gu.SM l).b, .int .u64 (Gu.SM l).c, .int .u64 (Gu.SM l).d]) (by simp [results, Try.results37, go_sem, Gu.SM, c0, c1, c2, c3]) rfl ⟨rfl, by (repeat (first | exact Below.refl _ _ | assumption | refine Below.drew ?_ | refine Below.alloc ?_ (by first | exact Nat.le_refl _ | (simp; done) | (simp; omega) | omega) _ | refine Below.setCell ?_ (by first | exact Nat.le_refl _ | (simp; done) | (simp; omega) | omega) _))⟩

theorem all_drop (p : UInt8 → Bool) (l : List UInt8) (k : Nat) (h : k < l.length) : (l.drop k).all p = (p l[k] && (l.drop (k + 1)).all p) := by
  rw [List.drop_eq_getElem_cons h, List.all_cons]
set_option maxHeartbeats 800000 in
theorem gof_any (l : Pc.B) (hl : l.length ≤ 1000000) (s : W4) (hs : s.Ok) (w : World) : Calls Try.prog 21 #[.string ⟨l.toArray⟩, .agg #[.int .u64 s.a, .int .u64 s.b, .int .u64 s.c, .int .u64 s.d]] w fun e w' => e = .returned (.bool (l.all fun c => s.has c.toNat)) ∧ Below w.heap.size w w' := by
  go_enter Try.func21, Try.ntmps21
  go_wp2
  go_loopw [8] (fun i wr => ∃ k : Nat, k ≤ l.length ∧ i = .int .i64 k ∧ FourAt w w.heap.size s wr ∧ Hid ((l.all fun c => s.has c.toNat) = ((l.drop k).all fun c => s.has c.toNat))) (fun i _ => l.length - (intOf i).toNat)
  case atStart => exact ⟨0, by omega, rfl, ⟨(Below.refl _ _).alloc (Nat.le_refl _) _, blk_new _ _⟩, Lib.hid rfl⟩
  case round =>
    obtain ⟨k, hk, rfl, HF, HV⟩ := hrel
    by_cases hlt : k < l.length
    · have hd := Lib.hid (all_drop (fun c => s.has c.toNat) l k hlt)
      have hb := l[k].toNat_lt
      have i1 : (0 : Int) ≤ (k : Int) := by omega
      have i2 : (k : Int) < (l.length : Int) := by omega
      have i3 : decide (k < l.length) = true := by simp; omega
      cases hc : s.has l[k].toNat
      all_goals
        go_wp2_with fail
        go_region_held3 (fun x => FourAt w w.heap.size s x ∧ x.cell? ⟨w.heap.size, 0, none⟩ = some (.int .u64 s.a) ∧ x.cell? ⟨w.heap.size, 1, none⟩ = some (.int .u64 s.b) ∧ x.cell? ⟨w.heap.size, 2, none⟩ = some (.int .u64 s.c) ∧ x.cell? ⟨w.heap.size, 3, none⟩ = some (.int .u64 s.d)) ((first | exact ⟨HF.drew, fourAt_cells HF.drew⟩ | assumption | exact four_call ‹FourAt w _ s _ ∧ _› ‹_›)) ((go_at_call 33; refine (has_any s hs l[k].toNat (by omega) _).mono ?_; rintro e w3 ⟨rfl, B3⟩))
        obtain ⟨HG, -, -, -, -⟩ := ‹FourAt w w.heap.size s _ ∧ _›
        clear HF
        go_wp2_with fail
      · go_ret
        refine ⟨ret_bool ?_, HG.1⟩
        rw [HV.out, hd.out]
        simp only [hc, Bool.false_and]
      · go_roundw
        case rel =>
          refine ⟨k + 1, by omega, by go_num, HG, Lib.hid ?_⟩
          rw [HV.out, hd.out]
          simp only [hc, Bool.true_and]
        case measure => simp [intOf]; omega
    · go_wp2_with fail
      go_ret
      refine ⟨ret_bool ?_, HF.1⟩
      rw [HV.out, List.drop_eq_nil_of_le (by omega)]; rfl
end Go.Proofs.Ytpccfagbmbbpkaa
