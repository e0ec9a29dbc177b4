/-
  internal/strconv.special, atof64, parseFloatPrefix, ParseFloat at a text of a float64: walked.
-/
import Derived.Test.YtedllapajgcfeaaGreatDoorWi
import Derived.Test.YtedllapajgcfeaaGreatDoorWh
import Derived.Test.YtedllapajgcfeaaGreatDoorWj3
import Derived.Test.YtedllapajgcfeaaGreatDoorWs
import Derived.WalkSmall
import Derived.OwnWalk
namespace Go.Proofs.YtedllapajgcfeaaGreatDoor
set_option linter.unusedVariables false
set_option linter.unusedSimpArgs false
open Go.RowKit Go.Proofs.YtedllapajgcfeaaGreatDoorW.PrintWords

/-- What parsing reads of memory. -/
structure TabQ (w : World) : Prop where
  p : TabP w
  f : TabF w
  opt : w.cell? ⟨3, 0, none⟩ = some (.bool true)
  olt : 3 < w.heap.size
theorem TabF.below {w w' : World} (h : TabF w) (hb : Below w.heap.size w w') : TabF w' := by
  obtain ⟨A, h1, h2, h3⟩ := h.row
  refine ⟨(hb.cell (p := ⟨5, 0, none⟩) h.lt1).trans h.info, ⟨A, (hb.cell (p := ⟨9, 0, none⟩) h.lt2).trans h1, Nat.lt_of_lt_of_le h2 hb.size, fun k hk => ?_⟩, Nat.lt_of_lt_of_le h.lt1 hb.size, Nat.lt_of_lt_of_le h.lt2 hb.size⟩
  have e : (A.add k).block = A.block := by unfold Addr.add; split <;> rfl
  exact (hb.cell (p := A.add k) (by rw [e]; exact h2)).trans (h3 k hk)
theorem TabQ.below {w w' : World} (h : TabQ w) (hb : Below w.heap.size w w') : TabQ w' :=
  ⟨h.p.below hb, h.f.below hb, (hb.cell (p := ⟨3, 0, none⟩) h.olt).trans h.opt, Nat.lt_of_lt_of_le h.olt hb.size⟩
set_option maxRecDepth 100000 in
set_option maxHeartbeats 6400000 in
theorem atof_any (neg : Bool) (l : List UInt8) (r : Nat) (H : Tx neg l r) (w : World) (hT : TabQ w) : Calls Tryz.prog 50 #[.string ⟨l.toArray⟩] w fun e w' => e = .returned (.tuple #[.float .f64 (fw neg r), .int .i64 l.length, Value.nilIface]) ∧ Below w.heap.size w w' := by
  obtain ⟨M, X, HM, h1, hX, hd, hx, hf, hl, hr⟩ := H.ex
  obtain ⟨c, t, hM⟩ : ∃ c t, M = c :: t := by
    cases M with
    | nil => simp at h1
    | cons c t => exact ⟨c, t, rfl⟩
  have hxl : (xT X).length ≤ 5 := by
    unfold xT
    split
    · simp
    · rename_i up ex
      have := (hX up ex rfl).1.hi
      simp; omega
  have hml := HM.len
  have hlen : l.length ≤ 46 := by
    rw [hl, List.length_append, List.length_append]
    have : (sgB neg).length ≤ 1 := by cases neg <;> decide
    omega
  have hdg : Rf.Dg c := by
    have := hf (by omega)
    subst hM
    exact this
  have HSP := Lib.hid (fun z => (show Calls Tryz.prog 71 #[.string ⟨l.toArray⟩] z fun e w' => e = .returned (.tuple #[.float .f64 0, .int .i64 0, .bool false]) ∧ ∃ n, w' = z.drewN n from by
    have := special_any neg c (t ++ xT X) hdg (by rw [hM] at hml; simp at hml ⊢; omega) z
    rw [hl, hM]
    have e : (if neg then [45] else []) ++ c :: (t ++ xT X) = sgB neg ++ c :: t ++ xT X := by unfold sgB; simp
    rw [← e]
    exact this))
  have HRD := Lib.hid (fun z => read_any neg M X HM h1 hX hd hx hf l hl z)
  have HO := Lib.hid hT
  have copt := hT.opt
  have HL := Lib.hid hlen
  clear hT hl hM HM hX hd hx hf hml hxl hlen hdg h1 H
  generalize (Rf.rd M).mant = d at *
  generalize expOf (Rf.rd M) (xV X) = p at *
  have hB0 : ∀ n, Below w.heap.size w (w.drewN n) := fun n => below_drewN (Below.refl _ _) n
  have HB0 := Lib.hid hB0
  clear hB0
  rcases hr with ⟨rfl, rfl⟩ | ⟨m, E, F, rfl, d0, d57, p1, p2, hI⟩
  · have o1 : bits .or .u64 0 0 = 0 := by decide +kernel
    have o2 : bits .or .u64 9223372036854775808 0 = 9223372036854775808 := by decide +kernel
    cases neg
    all_goals
      go_enter Tryz.func50, Tryz.ntmps50
      go_wp2_with fail
      refine (HSP.out _).mono ?_
      rintro e w1 ⟨rfl, n1, rfl⟩
      have copt1 := cell_dr n1 copt
      have HB1 := Lib.hid (HB0.out n1)
      generalize World.drewN w n1 = w1 at *
      go_wp2_with fail
      refine (HRD.out _).mono ?_
      rintro e w2 ⟨rfl, n2, rfl⟩
      have copt2 := cell_dr n2 copt1
      have HB2 := Lib.hid (below_drewN HB1.out n2)
      generalize World.drewN w1 n2 = w2 at *
      go_wp2_with (first | (refine (bool2u_any _ _).mono ?_; rintro e w3 ⟨rfl, rfl⟩) | fail)
      go_ret3
      first
      | exact ⟨by rw [fw_f]; rfl, HB2.out⟩
      | exact ⟨by rw [fw_t]; rfl, HB2.out⟩
  · have t0 : ((d : Int) == 0) = false := by simp; omega
    have t1 : decide (p > 310) = false := decide_eq_false (by omega)
    have t2 : decide (p < -345) = false := decide_eq_false (by omega)
    have HX := Lib.hid (fun z h => exact_any neg F d p d0 hI z h)
    have HP := Lib.hid (fun z h => pars_any neg F d p d0 d57 p1 p2 hI z h)
    clear F hI
    generalize Sc.rg m E = r at *
    generalize hfw : fw neg r = res at *
    clear hfw
    cases neg
    all_goals
      go_enter Tryz.func50, Tryz.ntmps50
      go_wp2_with fail
      refine (HSP.out _).mono ?_
      rintro e w1 ⟨rfl, n1, rfl⟩
      have copt1 := cell_dr n1 copt
      have HB1 := Lib.hid (HB0.out n1)
      generalize World.drewN w n1 = w1 at *
      go_wp2_with fail
      refine (HRD.out _).mono ?_
      rintro e w2 ⟨rfl, n2, rfl⟩
      have copt2 := cell_dr n2 copt1
      have HB2 := Lib.hid (below_drewN HB1.out n2)
      generalize World.drewN w1 n2 = w2 at *
      go_wp2_with (first | (refine (bool2u_any _ _).mono ?_; rintro e w3 ⟨rfl, rfl⟩) | fail)
      refine (HX.out _ (HO.out.f.below HB2.out)).mono ?_
      rintro e w3 ⟨⟨f, ok, rfl, hok⟩, n3, rfl⟩
      have copt3 := cell_dr n3 copt2
      have HB3 := Lib.hid (below_drewN HB2.out n3)
      generalize World.drewN w2 n3 = w3 at *
      cases ok
      · clear hok
        go_wp2_with fail
        refine (HP.out _ (HO.out.p.below HB3.out)).mono ?_
        rintro e w4 ⟨rfl, hB4⟩
        have HB4 := Lib.hid (HB3.out.trans (hB4.mono HB3.out.size))
        clear hB4
        go_wp2_with fail
        go_ret3
        exact ⟨rfl, HB4.out⟩
      · have hf := hok rfl
        subst hf
        clear hok
        go_wp2_with fail
        go_ret3
        exact ⟨rfl, HB3.out⟩
set_option maxHeartbeats 3200000 in
theorem prefix_any (neg : Bool) (l : List UInt8) (r : Nat) (H : Tx neg l r) (w : World) (hT : TabQ w) : Calls Tryz.prog 36 #[.string ⟨l.toArray⟩, .int .i64 64] w fun e w' => e = .returned (.tuple #[.float .f64 (fw neg r), .int .i64 l.length, Value.nilIface]) ∧ Below w.heap.size w w' := by
  have HA := Lib.hid (atof_any neg l r H w hT)
  generalize fw neg r = res at *
  clear H hT
  go_enter Tryz.func36, Tryz.ntmps36
  go_wp2_with fail
  refine (HA.out).mono ?_
  rintro e w1 ⟨rfl, hB⟩
  have HB := Lib.hid hB
  clear hB
  go_wp2_with fail
  go_ret3
  exact ⟨rfl, HB.out⟩
set_option maxHeartbeats 3200000 in
theorem parsein_any (neg : Bool) (l : List UInt8) (r : Nat) (H : Tx neg l r) (w : World) (hT : TabQ w) : Calls Tryz.prog 20 #[.string ⟨l.toArray⟩, .int .i64 64] w fun e w' => e = .returned (.tuple #[.float .f64 (fw neg r), Value.nilIface]) ∧ Below w.heap.size w w' := by
  have HA := Lib.hid (prefix_any neg l r H w hT)
  generalize fw neg r = res at *
  have hne : ((l.length : Int) != (l.length : Int)) = false := by simp
  clear H hT
  go_enter Tryz.func20, Tryz.ntmps20
  go_wp2_with fail
  refine (HA.out).mono ?_
  rintro e w1 ⟨rfl, hB⟩
  have HB := Lib.hid hB
  clear hB
  go_wp2_with fail
  go_ret2
  exact ⟨rfl, HB.out⟩
set_option maxHeartbeats 3200000 in
theorem parsefloat_any (neg : Bool) (l : List UInt8) (r : Nat) (H : Tx neg l r) (w : World) (hT : TabQ w) : Calls Tryz.prog 8 #[.string ⟨l.toArray⟩, .int .i64 64] w fun e w' => e = .returned (.tuple #[.float .f64 (fw neg r), Value.nilIface]) ∧ Below w.heap.size w w' := by
  have HA := Lib.hid (parsein_any neg l r H w hT)
  generalize fw neg r = res at *
  clear H hT
  go_enter Tryz.func8, Tryz.ntmps8
  go_wp2_with fail
  refine (HA.out).mono ?_
  rintro e w1 ⟨rfl, hB⟩
  have HB := Lib.hid hB
  clear hB
  go_wp2_with fail
  go_ret2
  exact ⟨rfl, HB.out⟩
end Go.Proofs.YtedllapajgcfeaaGreatDoor
