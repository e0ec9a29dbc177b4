/-
  Package gourl: schemes, ports, escapes, hosts.
-/
import Derived.Test.YtpccfagbmbbpkaaSome
import Derived.Outline
namespace Go.Proofs.Ytpccfagbmbbpkaa
open Go.RowKit Go.Proofs.YtpccfagbmbbpkaaW.PrintWords

theorem ret2_int_bool' {x y : Int} {a b : Bool} (h : x = y) (g : a = b) : Ending.returned (.tuple #[.int .i64 x, .bool a]) = .returned (.tuple #[.int .i64 y, .bool b]) := by rw [h, g]
theorem ret2_pair {x : Int} {a : Bool} {p : Int × Bool} (h : p = (x, a)) : Ending.returned (.tuple #[.int .i64 x, .bool a]) = .returned (.tuple #[.int .i64 p.1, .bool p.2]) := by rw [h]
theorem sch_drop (l : Pc.B) (k : Nat) (h : k < l.length) : Gu.sch k (l.drop k) = if l[k] = 58 then ((k : Int), decide (0 < k)) else if !(Gu.pln l[k].toNat || Gu.mem Gu.sch3 l[k].toNat) || (decide (k = 0) && decide (l[k].toNat < 65)) then (-1, true) else Gu.sch (k + 1) (l.drop (k + 1)) := by
  rw [List.drop_eq_getElem_cons h, Gu.sch]
set_option maxRecDepth 100000 in
set_option maxHeartbeats 1600000 in
theorem scheme_any (l : Pc.B) (hl : l.length ≤ 1000000) (w : World) : Calls Try.prog 22 #[.string ⟨l.toArray⟩] w fun e w' => e = .returned (.tuple #[.int .i64 (Gu.sch 0 l).1, .bool (Gu.sch 0 l).2]) ∧ Below w.heap.size w w' := by
  go_enter Try.func22, Try.ntmps22
  go_wp2_with fail
  refine (some_any Gu.sch3 (by decide) _).mono ?_
  rintro e w1 ⟨rfl, B1⟩
  have HF0 : FourAt w w1.heap.size (Gu.SM Gu.sch3) (w1.alloc ((.cells #[.int .u64 (Gu.SM Gu.sch3).a, .int .u64 (Gu.SM Gu.sch3).b, .int .u64 (Gu.SM Gu.sch3).c, .int .u64 (Gu.SM Gu.sch3).d] 34))) := ⟨B1.alloc B1.size _, blk_new _ _⟩
  have hok := Lib.hid (Gu.ok_SM Gu.sch3)
  have hmem := Lib.hid (fun c h => Gu.has_SM Gu.sch3 c h)
  generalize Gu.SM Gu.sch3 = s at HF0 hok hmem
  clear B1
  go_wp2_with fail
  go_loopw [9] (fun i wr => ∃ k : Nat, k ≤ l.length ∧ i = .int .i64 k ∧ FourAt w w1.heap.size s wr ∧ Hid (Gu.sch 0 l = Gu.sch k (l.drop k))) (fun i _ => l.length - (intOf i).toNat)
  case atStart => exact ⟨0, by omega, rfl, HF0, Lib.hid rfl⟩
  case round =>
    clear HF0
    obtain ⟨k, hk, rfl, HF, HV⟩ := hrel
    by_cases hlt : k < l.length
    · have hd := Lib.hid (sch_drop l k hlt)
      have hb := l[k].toNat_lt
      have i1 : (0 : Int) ≤ (k : Int) := by omega
      have i2 : (k : Int) < (l.length : Int) := by omega
      have i3 : decide (k < l.length) = true := by simp; omega
      by_cases h58 : l[k] = 58
      · have hc : ((l[k].toNat : Int) == 58) = true := by rw [h58]; rfl
        have H58 := Lib.hid h58
        clear h58
        go_wp2_with fail
        go_ret2
        refine ⟨ret2_pair ?_, HF.1⟩
        rw [HV.out, hd.out, if_pos H58.out]
      · have hc : ((l[k].toNat : Int) == 58) = false := beq_f (u8_ne (d := 58) h58)
        have H58 := Lib.hid h58
        clear h58
        cases hh : s.has l[k].toNat
        · go_wp2_with fail
          go_region_held3 (fun x => FourAt w w1.heap.size s x ∧ x.cell? ⟨w1.heap.size, 0, none⟩ = some (.int .u64 s.a) ∧ x.cell? ⟨w1.heap.size, 1, none⟩ = some (.int .u64 s.b) ∧ x.cell? ⟨w1.heap.size, 2, none⟩ = some (.int .u64 s.c) ∧ x.cell? ⟨w1.heap.size, 3, none⟩ = some (.int .u64 s.d)) ((first | exact ⟨HF.drew, fourAt_cells HF.drew⟩ | assumption | exact four_call ‹FourAt w _ s _ ∧ _› ‹_›)) ((go_at_call 33; refine (has_any s hok.out l[k].toNat (by omega) _).mono ?_; rintro e w3 ⟨rfl, B3⟩))
          obtain ⟨HG, -, -, -, -⟩ := ‹FourAt w _ s _ ∧ _›
          clear HF
          go_wp2_with fail
          go_ret2
          refine ⟨ret2_pair ?_, HG.1⟩
          rw [HV.out, hd.out, if_neg H58.out, ← hmem.out _ hb, hh]
          rfl
        · by_cases h0 : k = 0
          · have e0 : ((k : Int) == 0) = true := by rw [h0]; rfl
            by_cases h65 : l[k].toNat < 65
            · have e65 : decide ((l[k].toNat : Int) < 65) = true := by simp; omega
              have D0 := Lib.hid (decide_eq_true h0)
              have D65 := Lib.hid (show decide (l[k].toNat < 65) = true by simp; omega)
              clear h0
              go_wp2_with fail
              go_region_held3 (fun x => FourAt w w1.heap.size s x ∧ x.cell? ⟨w1.heap.size, 0, none⟩ = some (.int .u64 s.a) ∧ x.cell? ⟨w1.heap.size, 1, none⟩ = some (.int .u64 s.b) ∧ x.cell? ⟨w1.heap.size, 2, none⟩ = some (.int .u64 s.c) ∧ x.cell? ⟨w1.heap.size, 3, none⟩ = some (.int .u64 s.d)) ((first | exact ⟨HF.drew, fourAt_cells HF.drew⟩ | assumption | exact four_call ‹FourAt w _ s _ ∧ _› ‹_›)) ((go_at_call 33; refine (has_any s hok.out l[k].toNat (by omega) _).mono ?_; rintro e w3 ⟨rfl, B3⟩))
              obtain ⟨HG, -, -, -, -⟩ := ‹FourAt w _ s _ ∧ _›
              clear HF
              go_wp2_with fail
              go_ret2
              refine ⟨ret2_pair ?_, HG.1⟩
              rw [HV.out, hd.out, if_neg H58.out, D0.out, D65.out, Bool.true_and, Bool.or_true, if_pos rfl]
            · have e65 : decide ((l[k].toNat : Int) < 65) = false := by simp; omega
              have D0 := Lib.hid (decide_eq_true h0)
              have D65 := Lib.hid (show decide (l[k].toNat < 65) = false by simp; omega)
              clear h0
              go_wp2_with fail
              go_region_held3 (fun x => FourAt w w1.heap.size s x ∧ x.cell? ⟨w1.heap.size, 0, none⟩ = some (.int .u64 s.a) ∧ x.cell? ⟨w1.heap.size, 1, none⟩ = some (.int .u64 s.b) ∧ x.cell? ⟨w1.heap.size, 2, none⟩ = some (.int .u64 s.c) ∧ x.cell? ⟨w1.heap.size, 3, none⟩ = some (.int .u64 s.d)) ((first | exact ⟨HF.drew, fourAt_cells HF.drew⟩ | assumption | exact four_call ‹FourAt w _ s _ ∧ _› ‹_›)) ((go_at_call 33; refine (has_any s hok.out l[k].toNat (by omega) _).mono ?_; rintro e w3 ⟨rfl, B3⟩))
              obtain ⟨HG, -, -, -, -⟩ := ‹FourAt w _ s _ ∧ _›
              clear HF
              go_wp2_with fail
              go_roundw
              case rel =>
                refine ⟨k + 1, by omega, by go_num, HG, Lib.hid ?_⟩
                rw [HV.out, hd.out, if_neg H58.out, ← hmem.out _ hb, hh, D65.out, Bool.and_false]
                rfl
              case measure => simp [intOf]; omega
          · have e0 : ((k : Int) == 0) = false := by rw [beq_eq_false_iff_ne]; omega
            go_wp2_with fail
            go_region_held3 (fun x => FourAt w w1.heap.size s x ∧ x.cell? ⟨w1.heap.size, 0, none⟩ = some (.int .u64 s.a) ∧ x.cell? ⟨w1.heap.size, 1, none⟩ = some (.int .u64 s.b) ∧ x.cell? ⟨w1.heap.size, 2, none⟩ = some (.int .u64 s.c) ∧ x.cell? ⟨w1.heap.size, 3, none⟩ = some (.int .u64 s.d)) ((first | exact ⟨HF.drew, fourAt_cells HF.drew⟩ | assumption | exact four_call ‹FourAt w _ s _ ∧ _› ‹_›)) ((go_at_call 33; refine (has_any s hok.out l[k].toNat (by omega) _).mono ?_; rintro e w3 ⟨rfl, B3⟩))
            obtain ⟨HG, -, -, -, -⟩ := ‹FourAt w _ s _ ∧ _›
            clear HF
            go_wp2_with fail
            go_roundw
            case rel =>
              refine ⟨k + 1, by omega, by go_num, HG, Lib.hid ?_⟩
              rw [HV.out, hd.out, if_neg H58.out, ← hmem.out _ hb, hh, decide_eq_false h0, Bool.false_and]
              rfl
            case measure => simp [intOf]; omega
    · go_wp2_with fail
      go_ret2
      refine ⟨ret2_pair ?_, HF.1⟩
      rw [HV.out, List.drop_eq_nil_of_le (by omega)]; rfl

theorem below_drewN (w : World) (n : Nat) : Below w.heap.size w (w.drewN n) := ⟨rfl, rfl, rfl, Nat.le_refl _, fun _ _ => rfl⟩
/-- Nothing that was is turned. -/
def BB (w x : World) : Prop := Below w.heap.size w x
theorem BB.start (w : World) : BB w w := Below.refl _ _
theorem BB.drew {w x : World} (h : BB w x) : BB w x.drew := Below.drew h
theorem BB.call {w x y : World} (h : BB w x) (c : Below x.heap.size x y) : BB w y := bthen h c
def DG : W4 := W4.range 48 57
theorem all_DG (l : Pc.B) : (l.all fun c => DG.has c.toNat) = l.all fun c => Gu.dgt c.toNat := by
  congr 1
  funext c
  have := c.toNat_lt
  unfold DG Gu.dgt
  rw [W4.has_range _ _ _ (by omega) (by omega)]
set_option maxHeartbeats 1600000 in
theorem port_any (l : Pc.B) (hl : l.length ≤ 1000000) (w : World) : Calls Try.prog 58 #[.string ⟨l.toArray⟩] w fun e w' => e = .returned (.bool (Gu.port l)) ∧ Below w.heap.size w w' := by
  rcases l with _ | ⟨c, t⟩
  · go_enter Try.func58, Try.ntmps58
    go_wp2_with fail
    go_quiet (fail)
    go_wp2_with fail
    go_ret
    exact ⟨rfl, below_drewN _ _⟩
  · have hb := c.toNat_lt
    by_cases h58 : c = 58
    · have hc : ((c.toNat : Int) == 58) = true := by rw [h58]; rfl
      have hg : Gu.port (c :: t) = t.all fun c => DG.has c.toNat := by rw [all_DG]; simp [Gu.port, h58]
      rw [hg]
      have f1 : (1 : Int) ≤ (t.length : Int) + 1 := by omega
      clear h58 hg
      go_enter Try.func58, Try.ntmps58
      go_wp2_with fail
      go_region_held3 (fun x => BB w x) ((first | exact (BB.start w).drew | assumption | exact BB.call ‹BB w _› ‹_›)) ((first
        | ((go_at_call 16; refine (range_any 48 57 (by omega) (by omega) _).mono ?_; rintro e w3 ⟨rfl, B3⟩))
        | ((go_at_call 21; refine (gof_any t (by simp at hl; omega) DG (W4.ok_range _ _) _).mono ?_; rintro e w3 ⟨rfl, B3⟩))))
      have HB := ‹BB w _›
      go_wp2_with fail
      go_ret
      exact ⟨rfl, HB⟩
    · have hc : ((c.toNat : Int) == 58) = false := beq_f (u8_ne (d := 58) h58)
      have hg : Gu.port (c :: t) = false := by simp [Gu.port, h58]
      rw [hg]
      clear h58 hg
      go_enter Try.func58, Try.ntmps58
      go_wp2_with fail
      go_quiet (fail)
      go_wp2_with fail
      go_ret
      exact ⟨rfl, below_drewN _ _⟩
theorem esch_short {l : Pc.B} (h : l.length < 3) : Gu.esch l = false := by
  rcases l with _ | ⟨a, _ | ⟨b, _ | ⟨c, t⟩⟩⟩
  · rfl
  · rfl
  · rfl
  · simp at h; omega
set_option maxHeartbeats 1600000 in
theorem gescape_any (l : Pc.B) (hl : l.length ≤ 1000000) (w : World) : Calls Try.prog 61 #[.string ⟨l.toArray⟩] w fun e w' => e = .returned (.bool (Gu.esch l)) ∧ w = w' := by
  by_cases h3 : l.length < 3
  · have hg := esch_short h3
    rw [hg]
    clear hg
    go_enter Try.func61, Try.ntmps61
    go_wp2_with fail
    go_ret
    exact ⟨rfl, rfl⟩
  · obtain ⟨c, a, b, t, rfl⟩ : ∃ c a b t, l = c :: a :: b :: t := by
      rcases l with _ | ⟨c, _ | ⟨a, _ | ⟨b, t⟩⟩⟩
      · simp at h3
      · simp at h3
      · simp at h3
      · exact ⟨c, a, b, t, rfl⟩
    have hg : Gu.esch (c :: a :: b :: t) = (Pc.ok a.toNat && Pc.ok b.toNat && (decide (8 ≤ Pc.v a.toNat) || [c, a, b] == [37, 50, 53])) := rfl
    have HG := Lib.hid hg
    have ha := a.toNat_lt
    have hb := b.toNat_lt
    have hv := Pc.v_bd a.toNat
    clear hg h3
    cases o1 : Pc.ok a.toNat
    · go_enter Try.func61, Try.ntmps61
      go_wp2_with (go_at_call 48; refine (value_any _ (by omega) (by omega) _).mono ?_; rintro e w' ⟨rfl, rfl⟩)
      go_ret
      exact ⟨ret_bool (by rw [HG.out, o1]; rfl), rfl⟩
    · cases o2 : Pc.ok b.toNat
      · go_enter Try.func61, Try.ntmps61
        go_wp2_with (first | (go_at_call 48; refine (value_any _ (by omega) (by omega) _).mono ?_; rintro e w' ⟨rfl, rfl⟩) | (go_at_call 62; refine (hex_any _ (by omega) (by omega) _).mono ?_; rintro e w' ⟨rfl, rfl⟩))
        go_ret
        exact ⟨ret_bool (by rw [HG.out, o1, o2]; rfl), rfl⟩
      · by_cases o3 : 8 ≤ Pc.v a.toNat
        · go_enter Try.func61, Try.ntmps61
          go_wp2_with (first | (go_at_call 48; refine (value_any _ (by omega) (by omega) _).mono ?_; rintro e w' ⟨rfl, rfl⟩) | (go_at_call 62; refine (hex_any _ (by omega) (by omega) _).mono ?_; rintro e w' ⟨rfl, rfl⟩))
          go_ret
          exact ⟨ret_bool (by rw [HG.out, o1, o2, decide_eq_true o3]; rfl), rfl⟩
        · go_enter Try.func61, Try.ntmps61
          go_wp2_with (first | (go_at_call 48; refine (value_any _ (by omega) (by omega) _).mono ?_; rintro e w' ⟨rfl, rfl⟩) | (go_at_call 62; refine (hex_any _ (by omega) (by omega) _).mono ?_; rintro e w' ⟨rfl, rfl⟩))
          go_ret
          exact ⟨ret_bool (by rw [HG.out, o1, o2]; simp), rfl⟩

theorem named_drop (l : Pc.B) (k : Nat) (h : k < l.length) : Gu.named (l.drop k) = ((if l[k] = 37 then Gu.esch (l.drop k) else Gu.pln l[k].toNat || Gu.mem Gu.hstB l[k].toNat || decide (128 ≤ l[k].toNat)) && Gu.named (l.drop (k + 1))) := by
  rw [List.drop_eq_getElem_cons h, Gu.named]
set_option maxRecDepth 100000 in
set_option maxHeartbeats 1600000 in
theorem named_any (l : Pc.B) (hl : l.length ≤ 1000000) (w : World) : Calls Try.prog 59 #[.string ⟨l.toArray⟩] w fun e w' => e = .returned (.bool (Gu.named l)) ∧ Below w.heap.size w w' := by
  go_enter Try.func59, Try.ntmps59
  go_wp2_with fail
  refine (some_any Gu.hstB (by decide) _).mono ?_
  rintro e w1 ⟨rfl, B1⟩
  go_wp2_with fail
  refine (range_any 128 255 (by omega) (by omega) _).mono ?_
  rintro e w2 ⟨rfl, B2⟩
  go_wp2_with fail
  refine (or_any _ _ (Gu.ok_SM _) (W4.ok_range _ _) _).mono ?_
  rintro e w3 ⟨rfl, B3⟩
  have HB := bthen (bthen B1 B2) B3
  have HF0 : FourAt w w3.heap.size Gu.HS (w3.alloc ((.cells #[.int .u64 Gu.HS.a, .int .u64 Gu.HS.b, .int .u64 Gu.HS.c, .int .u64 Gu.HS.d] 34))) := ⟨HB.alloc HB.size _, blk_new _ _⟩
  have eH : (Gu.SM Gu.hstB).or (W4.range 128 255) = Gu.HS := rfl
  rw [eH]
  clear eH B1 B2 B3 HB
  have hok := Lib.hid Gu.ok_HS
  have hmem := Lib.hid (fun c h => Gu.has_HS c h)
  generalize Gu.HS = s at HF0 hok hmem
  go_wp2_with fail
  go_loopw [4] (fun i wr => ∃ k : Nat, k ≤ l.length ∧ i = .int .i64 k ∧ FourAt w w3.heap.size s wr ∧ Hid (Gu.named l = Gu.named (l.drop k))) (fun i _ => l.length - (intOf i).toNat)
  case atStart => exact ⟨0, by omega, rfl, HF0, Lib.hid rfl⟩
  case round =>
    clear HF0
    obtain ⟨k, hk, rfl, HF, HV⟩ := hrel
    by_cases hlt : k < l.length
    · have hd := Lib.hid (named_drop l k hlt)
      have hb := l[k].toNat_lt
      have i1 : (0 : Int) ≤ (k : Int) := by omega
      have i2 : (k : Int) < (l.length : Int) := by omega
      have i3 : decide (k < l.length) = true := by simp; omega
      by_cases h37 : l[k] = 37
      · have hc : ((l[k].toNat : Int) == 37) = true := by rw [h37]; rfl
        have H37 := Lib.hid h37
        clear h37
        cases he : Gu.esch (l.drop k)
        · go_wp2_with (go_at_call 61; refine (gescape_any _ (by simp; omega) _).mono ?_; rintro e w' ⟨rfl, rfl⟩)
          go_ret
          refine ⟨ret_bool ?_, HF.1⟩
          rw [HV.out, hd.out, if_pos H37.out, he]; rfl
        · go_wp2_with (go_at_call 61; refine (gescape_any _ (by simp; omega) _).mono ?_; rintro e w' ⟨rfl, rfl⟩)
          go_roundw
          case rel =>
            refine ⟨k + 1, by omega, by go_num, HF, Lib.hid ?_⟩
            rw [HV.out, hd.out, if_pos H37.out, he]; rfl
          case measure => simp [intOf]; omega
      · have hc : ((l[k].toNat : Int) == 37) = false := beq_f (u8_ne (d := 37) h37)
        have H37 := Lib.hid h37
        clear h37
        cases hh : s.has l[k].toNat
        · go_wp2_with fail
          go_region_held3 (fun x => FourAt w w3.heap.size s x ∧ x.cell? ⟨w3.heap.size, 0, none⟩ = some (.int .u64 s.a) ∧ x.cell? ⟨w3.heap.size, 1, none⟩ = some (.int .u64 s.b) ∧ x.cell? ⟨w3.heap.size, 2, none⟩ = some (.int .u64 s.c) ∧ x.cell? ⟨w3.heap.size, 3, none⟩ = some (.int .u64 s.d)) ((first | exact ⟨HF.drew, fourAt_cells HF.drew⟩ | assumption | exact four_call ‹FourAt w _ s _ ∧ _› ‹_›)) ((go_at_call 33; refine (has_any s hok.out l[k].toNat (by omega) _).mono ?_; rintro e w4 ⟨rfl, B4⟩))
          obtain ⟨HG, -, -, -, -⟩ := ‹FourAt w _ s _ ∧ _›
          clear HF
          go_wp2_with fail
          go_ret
          refine ⟨ret_bool ?_, HG.1⟩
          rw [HV.out, hd.out, if_neg H37.out, ← hmem.out _ hb, hh]; rfl
        · go_wp2_with fail
          go_region_held3 (fun x => FourAt w w3.heap.size s x ∧ x.cell? ⟨w3.heap.size, 0, none⟩ = some (.int .u64 s.a) ∧ x.cell? ⟨w3.heap.size, 1, none⟩ = some (.int .u64 s.b) ∧ x.cell? ⟨w3.heap.size, 2, none⟩ = some (.int .u64 s.c) ∧ x.cell? ⟨w3.heap.size, 3, none⟩ = some (.int .u64 s.d)) ((first | exact ⟨HF.drew, fourAt_cells HF.drew⟩ | assumption | exact four_call ‹FourAt w _ s _ ∧ _› ‹_›)) ((go_at_call 33; refine (has_any s hok.out l[k].toNat (by omega) _).mono ?_; rintro e w4 ⟨rfl, B4⟩))
          obtain ⟨HG, -, -, -, -⟩ := ‹FourAt w _ s _ ∧ _›
          clear HF
          go_wp2_with fail
          go_roundw
          case rel =>
            refine ⟨k + 1, by omega, by go_num, HG, Lib.hid ?_⟩
            rw [HV.out, hd.out, if_neg H37.out, ← hmem.out _ hb, hh]; rfl
          case measure => simp [intOf]; omega
    · go_wp2_with fail
      go_ret
      refine ⟨ret_bool ?_, HF.1⟩
      rw [HV.out, List.drop_eq_nil_of_le (by omega)]; rfl

/-! ### place and host -/
theorem lst_spec (c : UInt8) (l : Pc.B) : (Gu.lst c l = -1 ∧ ∀ j (h : j < l.length), l[j] ≠ c) ∨ ∃ i : Nat, ∃ h : i < l.length, Gu.lst c l = i ∧ l[i] = c ∧ ∀ j (h : j < l.length), i < j → l[j] ≠ c := by
  induction l with
  | nil => left; exact ⟨rfl, fun j h => absurd h (by simp)⟩
  | cons d t ih =>
    rcases ih with ⟨e, hn⟩ | ⟨i, hi, e, hc, hn⟩
    · by_cases hd : d = c
      · right
        refine ⟨0, by simp, by rw [Gu.lst, e]; simp [hd], hd, fun j h hj => ?_⟩
        rcases j with _ | j
        · omega
        · simpa using hn j (by simpa using h)
      · left
        refine ⟨by rw [Gu.lst, e]; simp [hd], fun j h => ?_⟩
        rcases j with _ | j
        · exact hd
        · simpa using hn j (by simpa using h)
    · right
      refine ⟨i + 1, by simpa using hi, by rw [Gu.lst, e, if_pos (by omega)]; omega, by simpa using hc, fun j h hj => ?_⟩
      rcases j with _ | j
      · omega
      · simpa using hn j (by simpa using h) (by omega)
theorem get_bang (l : Pc.B) (j : Nat) (h : j < l.length) : ((ByteArray.mk l.toArray).data[j]!) = l[j] := by
  simp [h]
theorem lst_lib (c : UInt8) (l : Pc.B) : Lib.lastIndexByte ⟨l.toArray⟩ (c.toNat : Int) = Gu.lst c l := by
  have hz : (ByteArray.mk l.toArray).size = l.length := by simp [ByteArray.size]
  have key : ∀ j, j < l.length → ((((ByteArray.mk l.toArray).data[j]!).toNat : Int) = (c.toNat : Int) ↔ l.getD j 0 = c) := by
    intro j h
    rw [get_bang l j h, List.getD_eq_getElem?_getD, List.getElem?_eq_getElem h]
    exact ⟨fun e => int_u8_eq _ _ e, fun e => by rw [← e]; rfl⟩
  rcases Lib.lastIndexByte_spec ⟨l.toArray⟩ (c.toNat : Int) with ⟨e, hn⟩ | ⟨i, hi, e, hc, hn⟩
  · rcases lst_spec c l with ⟨e', _⟩ | ⟨i', hi', e', hc', _⟩
    · rw [e, e']
    · exact absurd ((key i' hi').2 (by rw [List.getD_eq_getElem?_getD, List.getElem?_eq_getElem hi']; exact hc')) (hn i' (by rw [hz]; exact hi'))
  · rw [hz] at hi
    have h1 := (key i hi).1 hc
    rw [List.getD_eq_getElem?_getD, List.getElem?_eq_getElem hi] at h1
    rcases lst_spec c l with ⟨e', hn'⟩ | ⟨i', hi', e', hc', hn'⟩
    · exact absurd h1 (hn' i hi)
    · rw [e, e']
      rcases Nat.lt_trichotomy i i' with g | g | g
      · exact absurd ((key i' hi').2 (by rw [List.getD_eq_getElem?_getD, List.getElem?_eq_getElem hi']; exact hc')) (hn i' g (by rw [hz]; exact hi'))
      · rw [g]
      · exact absurd h1 (hn' i hi g)
theorem pre_one (c : UInt8) (l : Pc.B) : Lib.hasPrefix l [c] = decide (l.head? = some c) := by
  rcases l with _ | ⟨d, t⟩
  · rfl
  · simp only [Lib.hasPrefix, List.isPrefixOf, Bool.and_true, List.head?_cons, Option.some.injEq]
    rw [Bool.eq_iff_iff]; simp; exact eq_comm
theorem ret2_str_bool' {x y : List UInt8} {a b : Bool} (h : x = y) (g : a = b) : Ending.returned (.tuple #[.string ⟨x.toArray⟩, .bool a]) = .returned (.tuple #[.string ⟨y.toArray⟩, .bool b]) := by rw [h, g]
set_option maxHeartbeats 1600000 in
theorem place_no (l : Pc.B) (hl : l.length ≤ 1000000) (h : Gu.placeN l < 0) (w : World) : Calls Try.prog 52 #[.string ⟨l.toArray⟩] w fun e w' => e = .returned (.tuple #[.string ⟨[].toArray⟩, .bool false]) ∧ Below w.heap.size w w' := by
  have h91 : l.head? = some 91 := by
    have := Gu.lst_ge 58 l
    unfold Gu.placeN at h
    split at h
    · assumption
    · split at h <;> omega
  have hn : Gu.lst 93 l = -1 := by
    have := Gu.lst_ge 93 l
    unfold Gu.placeN at h
    rw [if_pos h91] at h
    split at h <;> omega
  have H1 := Lib.hid (fun w => (Try.strings_LastIndexByte ⟨l.toArray⟩ 58 (by simp [ByteArray.size]; omega) w))
  have H2 := Lib.hid (fun w => (Try.strings_LastIndexByte ⟨l.toArray⟩ 93 (by simp [ByteArray.size]; omega) w))
  have e1 : Lib.lastIndexByte ⟨l.toArray⟩ 58 = Gu.lst 58 l := lst_lib 58 l
  have e2 : Lib.lastIndexByte ⟨l.toArray⟩ 93 = Gu.lst 93 l := lst_lib 93 l
  have hp : Lib.hasPrefix l [91] = true := by rw [pre_one, decide_eq_true h91]
  rw [e1] at H1
  rw [e2, hn] at H2
  generalize Gu.lst 58 l = n58 at H1
  have H3 := Lib.hid (fun w => (Try.strings_HasPrefix ⟨l.toArray⟩ ⟨#[91]⟩ w))
  clear e1 e2 hn h h91
  go_enter Try.func52, Try.ntmps52
  go_wp2_with fail
  refine (H1.out _).mono ?_
  rintro e w' ⟨rfl, rfl⟩
  go_wp2_with fail
  refine (H3.out _).mono ?_
  rintro e w' ⟨rfl, rfl⟩
  rw [hp]
  go_wp2_with fail
  refine (H2.out _).mono ?_
  rintro e w' ⟨rfl, rfl⟩
  go_wp2_with fail
  go_ret2
  exact ⟨rfl, Below.refl _ _⟩
set_option maxHeartbeats 1600000 in
theorem place_yes (l : Pc.B) (hl : l.length ≤ 1000000) (n : Nat) (h : Gu.placeN l = n) (w : World) : Calls Try.prog 52 #[.string ⟨l.toArray⟩] w fun e w' => e = .returned (.tuple #[.string ⟨(l.take n).toArray⟩, .bool (Gu.port (l.drop n) && Gu.named (l.take n))]) ∧ Below w.heap.size w w' := by
  have H1 := Lib.hid (fun w => (Try.strings_LastIndexByte ⟨l.toArray⟩ 58 (by simp [ByteArray.size]; omega) w))
  have H2 := Lib.hid (fun w => (Try.strings_LastIndexByte ⟨l.toArray⟩ 93 (by simp [ByteArray.size]; omega) w))
  have H3 := Lib.hid (fun w => (Try.strings_HasPrefix ⟨l.toArray⟩ ⟨#[91]⟩ w))
  have e1 : Lib.lastIndexByte ⟨l.toArray⟩ 58 = Gu.lst 58 l := lst_lib 58 l
  have e2 : Lib.lastIndexByte ⟨l.toArray⟩ 93 = Gu.lst 93 l := lst_lib 93 l
  have hp := pre_one 91 l
  have g58 := Gu.lst_ge 58 l
  have g93 := Gu.lst_ge 93 l
  rw [e1] at H1
  rw [e2] at H2
  unfold Gu.placeN at h
  generalize Gu.lst 58 l = n58 at H1 h g58
  generalize Gu.lst 93 l = n93 at H2 h g93
  clear e1 e2
  by_cases h91 : l.head? = some 91
  · rw [if_pos h91] at h
    rw [decide_eq_true h91] at hp
    have hn : n93 = (n : Int) - 1 ∧ 1 ≤ n ∧ n ≤ l.length := by split at h <;> omega
    obtain ⟨rfl, hn1, hn2⟩ := hn
    have f1 : (0 : Int) ≤ (n : Int) := by omega
    have f2 : (n : Int) ≤ (l.length : Int) := by omega
    have f3 : ((n : Int) == 0) = false := by rw [beq_eq_false_iff_ne]; omega
    have f4 : IntKind.i64.wrap ((n : Int) - 1 + 1) = (n : Int) := by rw [IntWalk.i64_in _ (by omega)]; omega
    have HP := Lib.hid hp
    clear h h91 g58 g93 hp
    go_enter Try.func52, Try.ntmps52
    go_wp2_with fail
    refine (H1.out _).mono ?_
    rintro e w' ⟨rfl, rfl⟩
    go_wp2_with fail
    refine (H3.out _).mono ?_
    rintro e w' ⟨rfl, rfl⟩
    rw [HP.out]
    go_wp2_with fail
    refine (H2.out _).mono ?_
    rintro e w' ⟨rfl, rfl⟩
    go_wp2_with fail
    cases po : Gu.port (l.drop n)
    · go_wp2_with fail
      first | (go_region_with ((go_at_call 58; refine (port_any (l.drop n) (by simp; omega) _).mono ?_; rw [po]; rintro e w3 ⟨rfl, B3⟩))) | fail
      all_goals
        have HB : Below w'.heap.size w' w3 := ((Below.refl _ _).drew).trans B3
        clear B3
        go_wp2_with fail
        go_ret2
        exact ⟨ret2_str_bool' rfl (by rw [po]; rfl), HB⟩
    · go_wp2_with fail
      go_region_held3 (fun x => BB w' x) ((first | exact (BB.start w').drew | assumption | exact BB.call ‹BB w' _› ‹_›)) ((first
        | ((go_at_call 58; refine (port_any (l.drop n) (by simp; omega) _).mono ?_; rw [po]; rintro e w3 ⟨rfl, B3⟩))
        | ((go_at_call 59; refine (named_any (l.take n) (by simp; omega) _).mono ?_; rintro e w3 ⟨rfl, B3⟩))))
      have HB := ‹BB w' _›
      go_wp2_with fail
      go_ret2
      exact ⟨ret2_str_bool' rfl (by rw [po]; rfl), HB⟩
  · rw [if_neg h91] at h
    rw [decide_eq_false h91] at hp
    have hn : (n58 = (n : Int) ∨ (n58 = -1 ∧ n = l.length)) ∧ n ≤ l.length := by split at h <;> omega
    obtain ⟨hn1, hn2⟩ := hn
    have f1 : (0 : Int) ≤ (n : Int) := by omega
    have f2 : (n : Int) ≤ (l.length : Int) := by omega
    have HP := Lib.hid hp
    clear h h91 g58 g93 hp H2
    have hcut : Hid (Calls Try.prog 58 #[.string ⟨(l.drop n).toArray⟩] w fun e w' => e = .returned (.bool (Gu.port (l.drop n))) ∧ Below w.heap.size w w') := Lib.hid (port_any (l.drop n) (by simp; omega) w)
    clear hcut
    rcases hn1 with rfl | ⟨rfl, rfl⟩
    all_goals
      go_enter Try.func52, Try.ntmps52
      go_wp2_with fail
      refine (H1.out _).mono ?_
      rintro e w' ⟨rfl, rfl⟩
      go_wp2_with fail
      refine (H3.out _).mono ?_
      rintro e w' ⟨rfl, rfl⟩
      rw [HP.out]
      go_wp2_with fail
    · clear HP
      cases po : Gu.port (l.drop n)
      · go_wp2_with fail
        first | (go_region_with ((go_at_call 58; refine (port_any (l.drop n) (by simp; omega) _).mono ?_; rw [po]; rintro e w3 ⟨rfl, B3⟩))) | fail
        all_goals
          have HB : Below w'.heap.size w' w3 := ((Below.refl _ _).drew).trans B3
          clear B3
          go_wp2_with fail
          go_ret2
          exact ⟨ret2_str_bool' rfl (by rw [po]; rfl), HB⟩
      · go_wp2_with fail
        go_region_held3 (fun x => BB w' x) ((first | exact (BB.start w').drew | assumption | exact BB.call ‹BB w' _› ‹_›)) ((first
          | ((go_at_call 58; refine (port_any (l.drop n) (by simp; omega) _).mono ?_; rw [po]; rintro e w3 ⟨rfl, B3⟩))
          | ((go_at_call 59; refine (named_any (l.take n) (by simp; omega) _).mono ?_; rintro e w3 ⟨rfl, B3⟩))))
        have HB := ‹BB w' _›
        go_wp2_with fail
        go_ret2
        exact ⟨ret2_str_bool' rfl (by rw [po]; rfl), HB⟩
    · have hx1 : l.take l.length = l := List.take_length
      have hx2 : l.drop l.length = [] := List.drop_length
      go_wp2_with fail
      go_region_held3 (fun x => BB w' x) ((first | exact (BB.start w').drew | assumption | exact BB.call ‹BB w' _› ‹_›)) ((first
        | ((go_at_call 58; refine (port_any [] (by simp) _).mono ?_; rw [show Gu.port [] = true from rfl]; rintro e w3 ⟨rfl, B3⟩))
        | ((go_at_call 59; refine (named_any l (by omega) _).mono ?_; rintro e w3 ⟨rfl, B3⟩))))
      have HB := ‹BB w' _›
      go_wp2_with fail
      go_ret2
      exact ⟨ret2_str_bool' (by simp) (by simp [Gu.port]), HB⟩
end Go.Proofs.Ytpccfagbmbbpkaa
