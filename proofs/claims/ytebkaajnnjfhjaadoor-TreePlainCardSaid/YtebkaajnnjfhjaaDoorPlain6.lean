/-
  TreePlain: walked.
-/
import Derived.Test.YtebkaajnnjfhjaaDoorAwk6
namespace Go.Proofs.YtebkaajnnjfhjaaDoor
set_option linter.unusedVariables false
set_option linter.unusedSimpArgs false
open Go.RowKit Go.Proofs.YtebkaajnnjfhjaaDoorW.PrintWords
open Tr (Nd Pt)

theorem scan_step {c : UInt8} {t : List UInt8} {o : Int} {b : Bool} {r : Int × Bool} (h : Tr.scan (c :: t) o b = some r) : 33 ≤ c.toNat ∧ c.toNat ≤ 126 ∧ 0 ≤ (Tr.stp c o b).1 ∧ Tr.scan (if c = 92 then t.drop 1 else t) (Tr.stp c o b).1 (Tr.stp c o b).2 = some r := by
  rw [Tr.scan] at h
  split at h
  · cases h
  · split at h
    · cases h
    · exact ⟨by omega, by omega, by omega, h⟩
/-- What TreePlain asks of a print. -/
def Sc (l : List UInt8) (k : Nat) (o : Int) (b : Bool) : Prop := Tr.scan (l.drop k) o b = some (0, false)
theorem sc_step {l : List UInt8} {k : Nat} {o : Int} {b : Bool} (h : Sc l k o b) (hk : k < l.length) : 33 ≤ l[k].toNat ∧ l[k].toNat ≤ 126 ∧ 0 ≤ (Tr.stp l[k] o b).1 ∧ Sc l (if l[k] = 92 then k + 2 else k + 1) (Tr.stp l[k] o b).1 (Tr.stp l[k] o b).2 := by
  unfold Sc at h ⊢
  rw [List.drop_eq_getElem_cons hk] at h
  obtain ⟨h1, h2, h3, h4⟩ := scan_step h
  refine ⟨h1, h2, h3, ?_⟩
  by_cases hc : l[k] = 92
  · rw [if_pos hc] at h4 ⊢
    rwa [List.drop_drop] at h4
  · rw [if_neg hc] at h4 ⊢
    exact h4
theorem sc_end {l : List UInt8} {k : Nat} {o : Int} {b : Bool} (h : Sc l k o b) (hk : l.length ≤ k) : o = 0 ∧ b = false := by
  unfold Sc at h
  rw [List.drop_eq_nil_of_le hk, Tr.scan] at h
  injection h with h
  injection h with h1 h2
  exact ⟨h1, h2⟩
set_option maxRecDepth 100000 in
set_option maxHeartbeats 6400000 in
theorem plain_any {A A' : Option Addr} {ns : List Nd} {ps : List Pt} (c c' : Nat) (hw : Tr.Words ns) (w : World) (hT : TreeAt w A A' ns ps) (hL : Laid w) :
    Calls Tryd.prog 6 #[.agg #[.slice A ns.length c, .slice A' ps.length c']] w fun e w' => e = .returned (.bool true) ∧ Below w.heap.size w w' := by
  have hB0 : Below w.heap.size w (w.alloc (.cells #[.slice A ns.length c, .slice A' ps.length c'] 33)) := by (repeat (first | exact Below.refl _ _ | assumption | refine Below.drew ?_ | refine Below.alloc ?_ (by first | exact Nat.le_refl _ | (simp; done) | (simp; omega) | omega) _ | refine Below.setCell ?_ (by first | exact Nat.le_refl _ | (simp; done) | (simp; omega) | omega) _))
  have HG := Lib.hid (great_any c c' (hT.below hB0))
  have HTL : Hid (∀ w1, Below w.heap.size w w1 → TreeAt w1 A A' ns ps ∧ Laid w1) := Lib.hid fun w1 hb => ⟨hT.below hb, hL.below hb⟩
  have HA := Lib.hid (fun w1 hl => awake6_any w1 hl)
  have hnl := hT.nlen
  by_cases hg : 700 < ns.length ∨ 30 < ps.length
  · have hgb : (decide (700 < ns.length) || decide (30 < ps.length)) = true := by simpa using hg
    rw [hgb] at HG
    clear hg hgb hT hL
    go_enter Tryd.func6, Tryd.ntmps6
    go_wp2_with fail
    refine (HG.out).mono ?_
    rintro e w1 ⟨rfl, B1⟩
    have HB := bthen hB0 B1
    clear B1 HG
    go_wp2_with fail
    refine (HA.out _ (HTL.out _ HB).2).mono ?_
    rintro e w2 ⟨rfl, B2⟩
    go_wp2_with fail
    go_ret
    exact ⟨rfl, bthen HB B2⟩
  · have hgb : (decide (700 < ns.length) || decide (30 < ps.length)) = false := by simp; omega
    rw [hgb] at HG
    have HPR := Lib.hid (fun w1 (h : TreeAt w1 A A' ns ps) hl => print_any c c' hw w1 h hl)
    have HRT := Lib.hid (fun w1 (h : TreeAt w1 A A' ns ps) => right_any c c' h)
    have HDE := Lib.hid (fun w1 (h : TreeAt w1 A A' ns ps) => depth_any c c' h)
    have HPL := Lib.hid (fun w1 (h : TreeAt w1 A A' ns ps) => places_any c c' h)
    have hdl := Tr.depth_le ns ps
    have hpl := Tr.places_le ns ps
    have hsc : Sc (Tr.print ns ps) 0 0 false := Tr.print_scan hw
    have hne : (Tr.print ns ps = [] ↔ Tr.right ns ps = false) := by
      have := Tr.print_ne (ps := ps) hw
      cases h : Tr.right ns ps <;> simp [h] at this ⊢ <;> exact this
    have hlen : (Tr.print ns ps).length ≤ 30000000 := by
      cases h : Tr.right ns ps
      · rw [hne.2 h]; simp
      · have hG := (Tr.right_iff ns ps).1 h
        have e : Tr.print ns ps = Tr.pparts (ps.map (ptr ns)) := by unfold Tr.print; rw [h]; rfl
        rw [e]
        have h1 := join_len (ps.map (ptr ns)) (fun x hx => by
          obtain ⟨p, hp, rfl⟩ := List.mem_map.1 hx
          exact pp_len hG hp)
        have h2 := hG.p2
        rw [List.length_map] at h1
        omega
    generalize Tr.print ns ps = l at HPR hsc hne hlen
    generalize Tr.right ns ps = r at HRT hne
    generalize Tr.depth ns ps = dp at HDE hdl
    generalize Tr.places ns ps = pl at HPL hpl
    have HSC := Lib.hid hsc
    have HNE := Lib.hid hne
    clear hg hgb hT hL hsc hne
    have hrr : (l.isEmpty = !r) := by
      have := HNE.out
      cases r <;> cases l <;> simp at this ⊢
    go_enter Tryd.func6, Tryd.ntmps6
    go_wp2_with fail
    refine (HG.out).mono ?_
    rintro e w1 ⟨rfl, B1⟩
    have HB := bthen hB0 B1
    have hbx := Lib.hid (blk_below (blk_new w (.cells #[.slice A ns.length c, .slice A' ps.length c'] 33)) B1)
    have kb0 := blk_cell hbx.out 0
    have kb1 := blk_cell hbx.out 1
    simp at kb0 kb1
    clear B1 HG
    go_wp2_with fail
    refine (HPR.out _ (HTL.out _ HB).1 (HTL.out _ HB).2).mono ?_
    rintro e w2 ⟨rfl, B2⟩
    replace HB := bthen HB B2
    replace hbx := Lib.hid (blk_below hbx.out B2)
    clear kb0 kb1 B2 HPR
    have kb0 := blk_cell hbx.out 0
    have kb1 := blk_cell hbx.out 1
    simp at kb0 kb1
    go_wp2_with fail
    refine (HRT.out _ (HTL.out _ HB).1).mono ?_
    rintro e w3 ⟨rfl, B3⟩
    replace HB := bthen HB B3
    replace hbx := Lib.hid (blk_below hbx.out B3)
    clear kb0 kb1 B3 HRT
    have kb0 := blk_cell hbx.out 0
    have kb1 := blk_cell hbx.out 1
    simp at kb0 kb1
    go_wp2_with fail
    clear kb0 kb1
    go_loop [4, 5, 6] (fun ov bv kv => ∃ (k : Nat) (o : Int) (b : Bool), k ≤ l.length + 1 ∧ 0 ≤ o ∧ o ≤ k ∧ ov = .int .i64 o ∧ bv = .bool b ∧ kv = .int .i64 k ∧ Hid (Sc l k o b)) (fun _ _ kv => l.length + 2 - (RowKit.intOf kv).toNat)
    case atStart => exact ⟨0, 0, false, by omega, by omega, by omega, rfl, rfl, rfl, HSC⟩
    case round =>
      clear HSC
      obtain ⟨k, o, b, hk, ho1, ho2, rfl, rfl, rfl, HS⟩ := hrel
      by_cases hlt : k < l.length
      · have hst := Lib.hid (sc_step HS.out hlt)
        have hx := l[k].toNat_lt
        obtain ⟨q1, q2, q3, q4⟩ := hst.out
        have d1 : decide ((l[k].toNat : Int) < 33) = false := decide_eq_false (by omega)
        have d2 : decide ((126 : Int) < l[k].toNat) = false := decide_eq_false (by omega)
        by_cases h92 : l[k] = 92
        · have HS2 : Hid (Sc l (k + 2) o b) := Lib.hid (by
            rw [if_pos h92] at q4
            have e : Tr.stp l[k] o b = (o, b) := by rw [h92]; unfold Tr.stp; rw [if_pos rfl]
            rw [e] at q4; exact q4)
          have f92 : ((l[k].toNat : Int) == 92) = true := by rw [h92]; rfl
          clear q1 q2 q3 q4 h92 hst HS
          cases b
          all_goals
            go_wp2_with fail
            go_round
            case rel => exact ⟨k + 2, o, _, by omega, by omega, by omega, rfl, rfl, by go_num, HS2⟩
            case measure => simp [RowKit.intOf]; omega
        · have f92 : ((l[k].toNat : Int) == 92) = false := by
            have := u8_beq l[k] 92
            rw [show ((92 : UInt8).toNat : Int) = 92 from rfl] at this
            rw [this]; simpa using h92
          rw [if_neg h92] at q4
          cases b
          · by_cases h91 : l[k] = 91
            · have HS2 : Hid (Sc l (k + 1) o true) := Lib.hid (by
                have e : Tr.stp l[k] o false = (o, true) := by rw [h91]; rfl
                rw [e] at q4; exact q4)
              have f91 : ((l[k].toNat : Int) == 91) = true := by rw [h91]; rfl
              clear q1 q2 q3 q4 h92 h91 hst HS
              go_wp2_with fail
              go_round
              case rel => exact ⟨k + 1, o, true, by omega, by omega, by omega, rfl, rfl, by go_num, HS2⟩
              case measure => simp [RowKit.intOf]; omega
            · have f91 : ((l[k].toNat : Int) == 91) = false := by
                have := u8_beq l[k] 91
                rw [show ((91 : UInt8).toNat : Int) = 91 from rfl] at this
                rw [this]; simpa using h91
              by_cases h40 : l[k] = 40
              · have HS2 : Hid (Sc l (k + 1) (o + 1) false) := Lib.hid (by
                  have e : Tr.stp l[k] o false = (o + 1, false) := by rw [h40]; rfl
                  rw [e] at q4; exact q4)
                have f40 : ((l[k].toNat : Int) == 40) = true := by rw [h40]; rfl
                clear q1 q2 q3 q4 h92 h91 h40 hst HS
                go_wp2_with fail
                go_round
                case rel => exact ⟨k + 1, o + 1, false, by omega, by omega, by omega, rfl, rfl, by go_num, HS2⟩
                case measure => simp [RowKit.intOf]; omega
              · have f40 : ((l[k].toNat : Int) == 40) = false := by
                  have := u8_beq l[k] 40
                  rw [show ((40 : UInt8).toNat : Int) = 40 from rfl] at this
                  rw [this]; simpa using h40
                by_cases h41 : l[k] = 41
                · have e : Tr.stp l[k] o false = (o - 1, false) := by rw [h41]; rfl
                  have HS2 : Hid (Sc l (k + 1) (o - 1) false) := Lib.hid (by rw [e] at q4; exact q4)
                  have q5 : 0 ≤ o - 1 := by rw [e] at q3; exact q3
                  have f41 : ((l[k].toNat : Int) == 41) = true := by rw [h41]; rfl
                  clear q1 q2 q3 q4 h92 h91 h40 h41 hst HS e
                  go_wp2_with fail
                  go_round
                  case rel => exact ⟨k + 1, o - 1, false, by omega, by omega, by omega, rfl, rfl, by go_num, HS2⟩
                  case measure => simp [RowKit.intOf]; omega
                · have f41 : ((l[k].toNat : Int) == 41) = false := by
                    have := u8_beq l[k] 41
                    rw [show ((41 : UInt8).toNat : Int) = 41 from rfl] at this
                    rw [this]; simpa using h41
                  have HS2 : Hid (Sc l (k + 1) o false) := Lib.hid (by
                    have e : Tr.stp l[k] o false = (o, false) := by unfold Tr.stp; simp [h92, h91, h40, h41]
                    rw [e] at q4; exact q4)
                  clear q1 q2 q3 q4 h92 h91 h40 h41 hst HS
                  go_wp2_with fail
                  go_round
                  case rel => exact ⟨k + 1, o, false, by omega, by omega, by omega, rfl, rfl, by go_num, HS2⟩
                  case measure => simp [RowKit.intOf]; omega
          · by_cases h93 : l[k] = 93
            · have HS2 : Hid (Sc l (k + 1) o false) := Lib.hid (by
                have e : Tr.stp l[k] o true = (o, false) := by rw [h93]; rfl
                rw [e] at q4; exact q4)
              have f93 : ((l[k].toNat : Int) != 93) = false := by rw [h93]; rfl
              clear q1 q2 q3 q4 h92 h93 hst HS
              go_wp2_with fail
              go_round
              case rel => exact ⟨k + 1, o, false, by omega, by omega, by omega, rfl, rfl, by go_num, HS2⟩
              case measure => simp [RowKit.intOf]; omega
            · have HS2 : Hid (Sc l (k + 1) o true) := Lib.hid (by
                have e : Tr.stp l[k] o true = (o, true) := by unfold Tr.stp; simp [h92, h93]
                rw [e] at q4; exact q4)
              have f93 : ((l[k].toNat : Int) != 93) = true := by
                have := u8_beq l[k] 93
                rw [show ((93 : UInt8).toNat : Int) = 93 from rfl] at this
                rw [bne, this]; simpa using h93
              clear q1 q2 q3 q4 h92 h93 hst HS
              go_wp2_with fail
              go_round
              case rel => exact ⟨k + 1, o, true, by omega, by omega, by omega, rfl, rfl, by go_num, HS2⟩
              case measure => simp [RowKit.intOf]; omega
      · obtain ⟨hoz, hbz⟩ := sc_end HS.out (by omega)
        subst hoz hbz
        have kb0 := blk_cell hbx.out 0
        have kb1 := blk_cell hbx.out 1
        simp at kb0 kb1
        go_wp2_with fail
        refine (HDE.out _ (HTL.out _ HB).1).mono ?_
        rintro e w4 ⟨rfl, B4⟩
        replace HB := bthen HB B4
        replace hbx := Lib.hid (blk_below hbx.out B4)
        clear kb0 kb1 B4 HDE
        have kb0 := blk_cell hbx.out 0
        have kb1 := blk_cell hbx.out 1
        simp at kb0 kb1
        have dd : decide ((dp : Int) ≤ (ns.length : Int)) = true := decide_eq_true (by omega)
        have dd2 : decide (dp ≤ ns.length) = true := decide_eq_true hdl
        have dp1 : decide ((0 : Int) ≤ (pl : Int)) = true := decide_eq_true (by omega)
        have dp2 : decide ((pl : Int) ≤ 1073741824) = true := decide_eq_true (by omega)
        go_wp2_with fail
        refine (HPL.out _ (HTL.out _ HB).1).mono ?_
        rintro e w5 ⟨rfl, B5⟩
        replace HB := bthen HB B5
        replace hbx := Lib.hid (blk_below hbx.out B5)
        clear kb0 kb1 B5
        have kb0 := blk_cell hbx.out 0
        have kb1 := blk_cell hbx.out 1
        simp at kb0 kb1
        go_wp2_with fail
        refine (HPL.out _ (HTL.out _ HB).1).mono ?_
        rintro e w6 ⟨rfl, B6⟩
        replace HB := bthen HB B6
        clear kb0 kb1 B6
        go_wp2_with fail
        refine (HA.out _ (HTL.out _ HB).2).mono ?_
        rintro e w7 ⟨rfl, B7⟩
        replace HB := bthen HB B7
        go_wp2_with fail
        go_ret
        exact ⟨rfl, HB⟩
end Go.Proofs.YtebkaajnnjfhjaaDoor
