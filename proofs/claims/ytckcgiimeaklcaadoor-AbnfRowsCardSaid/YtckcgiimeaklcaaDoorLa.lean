/-
  derives, awake: walked.
-/
import Derived.Test.YtckcgiimeaklcaaDoorDf
import Derived.Test.YtckcgiimeaklcaaDoorEv
namespace Go.Proofs.YtckcgiimeaklcaaDoor
set_option linter.unusedVariables false
set_option linter.unusedSimpArgs false
open Go.RowKit Go.Proofs.YtckcgiimeaklcaaDoorW.PrintWords
open Ab (T El R Rs sz rootI post els root hasR szs Tb TT)
theorem Ab.Sound.lo {rs : Rs} (h : Ab.Sound rs) : ∀ x ∈ els 0 rs, x.k = 5 → 0 ≤ x.lo := by
  intro x hx h5
  obtain ⟨i, hi, rfl⟩ := List.getElem_of_mem hx
  have := Ab.els_ok rs 0 i _ (fun r hr => (h.tok r hr).1) (List.getElem?_eq_getElem hi)
  rcases this.2 with h | h | h | ⟨h | h, _⟩ | ⟨_, _, _, h, _⟩
  · omega
  · omega
  · omega
  · omega
  · omega
  · exact h
section
variable {W : World}
set_option maxRecDepth 100000 in
set_option maxHeartbeats 3200000 in
theorem derives_ok (text rule w : List UInt8) (b : Bool) (N : Nat) (m : Int) (hm : W.cell? ⟨0, 0, none⟩ = some (.int .i64 m)) (hr : rule.length ≤ maxLen) (hw : w.length ≤ 120) (h : Ab.drv text rule w N = some b) :
    Calls Tryd.prog 8 #[.string ⟨text.toArray⟩, .string ⟨rule.toArray⟩, .string ⟨w.toArray⟩] W fun e w' => e = .returned (.bool b) ∧ Below W.heap.size W w' := by
  have HRD := Lib.hid (read_any (w := W) text m hm)
  unfold Ab.drv at h
  cases hrd : Ab.read text with
  | bad i e => rw [hrd] at h; cases h
  | good rs ln =>
    rw [hrd] at h HRD
    simp only at h
    cases hz : root 0 rs rule with
    | none => rw [hz] at h; cases h
    | some z =>
      rw [hz] at h
      simp only at h
      have HH := Lib.hid (And.intro h (And.intro hz (And.intro hr hw)))
      clear h hz hr hw hrd
      go_enter Tryd.func8, Tryd.ntmps8
      go_wp2_with fail
      refine HRD.out.mono ?_
      rintro e w1 ⟨B1, gg, bm, A, c, vL, rfl, hG, hS⟩
      have HG := Lib.hid hG
      have HS := Lib.hid hS
      have HB1 := Lib.hid B1
      clear hG hS B1 HRD
      have hz0 := (Ab.root_lt rule 0 rs z HH.out.2.1).1
      go_wp2_with fail
      refine (derives_any HG.out HS.out rfl rule HH.out.2.2.1 w HH.out.2.2.2 z.toNat (by rw [HH.out.2.1]; congr 1; omega)).mono ?_
      rintro e w2 ⟨bb, rfl, hb, B2⟩
      have hbb : bb = b := by
        have h1 := Ab.ck_iff HS.out.lo HH.out.1
        cases b <;> cases bb
        · rfl
        · exact absurd (h1.2 (hb.1 rfl)) (by simp)
        · exact absurd (hb.2 (h1.1 rfl)) (by simp)
        · rfl
      subst hbb
      have HB2 := Lib.hid (bthen HB1.out B2)
      clear hb B2
      go_wp2_with fail
      all_goals
        go_ret
        exact ⟨rfl, HB2.out⟩
set_option maxRecDepth 100000 in
set_option maxHeartbeats 3200000 in
theorem awake_any (m : Int) (hm : W.cell? ⟨0, 0, none⟩ = some (.int .i64 m)) : Calls Tryd.prog 9 #[] W fun e w' => e = .returned (.bool true) ∧ Below W.heap.size W w' := by
  have HM : ∀ {z : World}, Below W.heap.size W z → z.cell? ⟨0, 0, none⟩ = some (.int .i64 m) := fun B => pw_cell_below B hm
  have HB := Lib.hid (Below.refl W.heap.size W)
  have HMM := Lib.hid (fun (z : World) (B : Below W.heap.size W z) => pw_cell_below B hm)
  go_enter Tryd.func9, Tryd.ntmps9
  go_wp2_with fail
  refine (derives_ok _ _ _ true 30 m (HMM.out _ HB.out) (by decide) (by decide) (by kernel_rfl)).mono ?_
  rintro e w1 ⟨rfl, B1⟩
  replace HB := Lib.hid (bthen HB.out B1)
  clear B1
  go_wp2_with fail
  refine (derives_ok _ _ _ true 30 m (HMM.out _ HB.out) (by decide) (by decide) (by kernel_rfl)).mono ?_
  rintro e w1 ⟨rfl, B1⟩
  replace HB := Lib.hid (bthen HB.out B1)
  clear B1
  go_wp2_with fail
  refine (derives_ok _ _ _ true 30 m (HMM.out _ HB.out) (by decide) (by decide) (by kernel_rfl)).mono ?_
  rintro e w1 ⟨rfl, B1⟩
  replace HB := Lib.hid (bthen HB.out B1)
  clear B1
  go_wp2_with fail
  refine (derives_ok _ _ _ false 30 m (HMM.out _ HB.out) (by decide) (by decide) (by kernel_rfl)).mono ?_
  rintro e w1 ⟨rfl, B1⟩
  replace HB := Lib.hid (bthen HB.out B1)
  clear B1
  go_wp2_with fail
  refine (derives_ok _ _ _ true 30 m (HMM.out _ HB.out) (by decide) (by decide) (by kernel_rfl)).mono ?_
  rintro e w1 ⟨rfl, B1⟩
  replace HB := Lib.hid (bthen HB.out B1)
  clear B1
  go_wp2_with fail
  refine (derives_ok _ _ _ false 30 m (HMM.out _ HB.out) (by decide) (by decide) (by kernel_rfl)).mono ?_
  rintro e w1 ⟨rfl, B1⟩
  replace HB := Lib.hid (bthen HB.out B1)
  clear B1
  go_wp2_with fail
  go_ret
  exact ⟨rfl, HB.out⟩
end
end Go.Proofs.YtckcgiimeaklcaaDoor
