/-
  The document's own Parse for layer 20 tells of any text just what gourl.Parse does.
-/
import Derived.Test.YtpccfagbmbbpkaaRefF
import Derived.Test.YtpccfagbmbbpkaaRefG
import Derived.Test.YtpccfagbmbbpkaaRefH
import Derived.Test.YtpccfagbmbbpkaaPars
namespace Go.Proofs.Ytpccfagbmbbpkaa
open Go.RowKit Go.Proofs.YtpccfagbmbbpkaaW.PrintWords

theorem bef_take (c : UInt8) (l : Pc.B) : l.take (Gu.bef c l).length = Gu.bef c l := by
  induction l with
  | nil => rfl
  | cons d t ih =>
    unfold Gu.bef at ih ⊢
    rw [List.takeWhile_cons]
    cases d != c
    · rfl
    · simp only [if_true, List.length_cons, List.take_succ_cons, ih]
theorem aft_valid (l : Pc.B) : Pc.valid (l.drop (Gu.bef 35 l).length) = Pc.valid (Gu.aft 35 l) := by
  induction l with
  | nil => rfl
  | cons d t ih =>
    by_cases hd : d = 35
    · subst hd
      have e1 : Gu.bef 35 (35 :: t) = [] := by simp [Gu.bef]
      have e2 : Gu.aft 35 (35 :: t) = t := by simp [Gu.aft]
      rw [e1, e2]
      show Pc.valid (35 :: t) = Pc.valid t
      rw [Pc.valid]; rfl
    · have hb : (d != 35) = true := by simpa using hd
      have e1 : Gu.bef 35 (d :: t) = d :: Gu.bef 35 t := by unfold Gu.bef; rw [List.takeWhile_cons, hb]; rfl
      have e2 : Gu.aft 35 (d :: t) = Gu.aft 35 t := by unfold Gu.aft; rw [List.dropWhile_cons, hb]; rfl
      rw [e1, e2, List.length_cons, List.drop_succ_cons, ih]
theorem lef_drop (l : Pc.B) (t f n : Nat) : (lef l t f).drop n = lef l t (f + n) := by unfold lef; rw [List.drop_drop]
theorem lef_take (l : Pc.B) (t f n : Nat) (h : f + n ≤ t) : (lef l t f).take n = lef l (f + n) f := by
  unfold lef
  rw [List.take_drop, List.take_take, Nat.min_eq_left h]
theorem lef_len (l : Pc.B) (t f : Nat) (ht : t ≤ l.length) : (lef l t f).length = t - f := by unfold lef; simp; omega
theorem lef_of_take (l : Pc.B) (T e a : Nat) (h : e ≤ T) : ((l.take T).take e).drop a = lef l e a := by unfold lef; rw [List.take_take, Nat.min_eq_left h]
theorem plc_cases (f : Nat) (s : Pc.B) : ((Gu.place s).2 = false ∧ plc f s = -1) ∨ ((Gu.place s).2 = true ∧ ∃ n : Nat, n ≤ s.length ∧ plc f s = ((f + n : Nat) : Int) ∧ (Gu.place s).1 = s.take n) := by
  have hle := Gu.placeN_le s
  by_cases h : Gu.placeN s < 0
  · left; exact ⟨by unfold Gu.place; rw [if_pos h], plc_no h⟩
  · have hp : Gu.place s = (s.take (Gu.placeN s).toNat, Gu.port (s.drop (Gu.placeN s).toNat) && Gu.named (s.take (Gu.placeN s).toNat)) := by unfold Gu.place; rw [if_neg h]
    have hq : plc f s = if Gu.port (s.drop (Gu.placeN s).toNat) && Gu.named (s.take (Gu.placeN s).toNat) then f + Gu.placeN s else -1 := by unfold plc; rw [if_neg h]
    rw [hp, hq]
    cases hb : Gu.port (s.drop (Gu.placeN s).toNat) && Gu.named (s.take (Gu.placeN s).toNat)
    · left; exact ⟨rfl, rfl⟩
    · right; exact ⟨rfl, (Gu.placeN s).toNat, by omega, by simp; omega, rfl⟩
theorem mem_bef (R : Pc.B) : (Gu.bef 58 R).length < (Gu.bef 47 R).length ↔ Gu.mem (Gu.bef 47 R) 58 = true := by
  induction R with
  | nil => simp [Gu.bef, Gu.mem]
  | cons d t ih =>
    by_cases h47 : d = 47
    · subst h47
      have e1 : Gu.bef 47 (47 :: t) = [] := by simp [Gu.bef]
      rw [e1]; simp [Gu.mem]
    · have hb : (d != 47) = true := by simpa using h47
      have e1 : Gu.bef 47 (d :: t) = d :: Gu.bef 47 t := by unfold Gu.bef; rw [List.takeWhile_cons, hb]; rfl
      by_cases h58 : d = 58
      · subst h58
        have e2 : Gu.bef 58 (58 :: t) = [] := by simp [Gu.bef]
        rw [e1, e2]; simp [Gu.mem]
      · have hb2 : (d != 58) = true := by simpa using h58
        have e2 : Gu.bef 58 (d :: t) = d :: Gu.bef 58 t := by unfold Gu.bef; rw [List.takeWhile_cons, hb2]; rfl
        have e3 : decide (d.toNat = 58) = false := by simpa using fun e => h58 (UInt8.toNat_inj.mp e)
        rw [e1, e2]
        unfold Gu.mem at ih ⊢
        rw [List.any_cons, e3, Bool.false_or, ← ih]
        simp
theorem pre_two {R : Pc.B} (h : List.isPrefixOf [47] R = false) : List.isPrefixOf [47, 47] R = false := by
  rcases R with _ | ⟨a, t⟩
  · rfl
  · simp [List.isPrefixOf] at h ⊢
    intro e; exact absurd e h
theorem pre_len {R : Pc.B} (h : List.isPrefixOf [47, 47] R = true) : 2 ≤ R.length := by
  have := (List.isPrefixOf_iff_prefix.1 h).length_le
  simpa using this
/-- The same, when an authority is looked at. -/
theorem rooted_two {R : Pc.B} {s : Bool} (h : Gu.two R s = true) : Gu.rooted R s = if (Gu.host (Gu.bef 47 (R.drop 2))).2 then if Pc.valid ((R.drop 2).drop (Gu.bef 47 (R.drop 2)).length) then some ((Gu.host (Gu.bef 47 (R.drop 2))).1, (R.drop 2).drop (Gu.bef 47 (R.drop 2)).length) else none else none := by
  unfold Gu.rooted; rw [h]; rfl
theorem rooted_nt {R : Pc.B} {s : Bool} (h : Gu.two R s = false) : Gu.rooted R s = if Pc.valid R then some ([], R) else none := by
  unfold Gu.rooted; rw [h]; rfl
/-- A host by places. -/
theorem host_cases (l : Pc.B) (F t : Nat) (hF : F ≤ t) (ht : t ≤ l.length) : (lv 64 l F t = -1 ∧ Gu.host (lef l t F) = Gu.place (lef l t F)) ∨ ∃ p : Nat, lv 64 l F t = p ∧ F ≤ p ∧ p < t ∧ Gu.host (lef l t F) = if Gu.usr (lef l p F) then Gu.place (lef l t (p + 1)) else ([], false) := by
  have hge := Gu.lst_ge 64 (lef l t F)
  rw [lef_len l t F ht] at hge
  by_cases h : Gu.lst 64 (lef l t F) < 0
  · left
    refine ⟨?_, ?_⟩
    · unfold lv; rw [if_pos h]
    · unfold Gu.host; rw [if_pos h]
  · right
    refine ⟨F + (Gu.lst 64 (lef l t F)).toNat, ?_, by omega, by omega, ?_⟩
    · show (if Gu.lst 64 (lef l t F) < 0 then (-1 : Int) else F + Gu.lst 64 (lef l t F)) = _
      rw [if_neg h]; omega
    · unfold Gu.host
      rw [if_neg h, lef_take l t F _ (by omega), lef_drop, Nat.add_assoc]
theorem rparse_any (l : Pc.B) (hl : l.length ≤ 1000000) (w : World) : Calls Try.prog 10 #[.string ⟨l.toArray⟩] w fun r w' => r = .returned (res (Gu.parse l)) ∧ Below w.heap.size w w' := by
  have hP : Gu.parse l = if !Pc.valid (Gu.aft 35 l) || !((Gu.bef 35 l).all fun c => !Gu.ctl c.toNat) then none
    else if !(Gu.sch 0 (Gu.bef 35 l)).2 then none
    else if !List.isPrefixOf [47] (Gu.rest l) then
      if 0 ≤ (Gu.sch 0 (Gu.bef 35 l)).1 then some ([], [])
      else if Gu.mem (Gu.bef 47 (Gu.rest l)) 58 then none
      else Gu.rooted (Gu.rest l) false
    else Gu.rooted (Gu.rest l) (decide (0 ≤ (Gu.sch 0 (Gu.bef 35 l)).1)) := rfl
  obtain ⟨T, hTe⟩ : ∃ T, (Gu.bef 35 l).length = T := ⟨_, rfl⟩
  have hT : fst [35] l 0 = T := by rw [fst_one, List.drop_zero, hTe]; omega
  have hTl : T ≤ l.length := by have := Gu.bef_len 35 l; omega
  have hbody : Gu.bef 35 l = l.take T := by rw [← hTe, bef_take]
  have hvv : Pc.valid (Gu.aft 35 l) = Pc.valid (lef l l.length T) := by
    unfold lef
    rw [List.take_length, ← aft_valid, hTe]
  have hl0 : lef l T 0 = l.take T := rfl
  have hrest : Gu.rest l = Gu.bef 63 ((l.take T).drop ((Gu.sch 0 (l.take T)).1 + 1).toNat) := by unfold Gu.rest; rw [hbody]
  rw [hvv, hbody] at hP
  cases hv : Pc.valid (lef l l.length T)
  · have e : Gu.parse l = none := by rw [hP, hv]; rfl
    rw [e]; exact rp_1 l hl T hT hTl hv w
  · cases hc : (l.take T).all fun c => !Gu.ctl c.toNat
    · have e : Gu.parse l = none := by rw [hP, hv, hc]; rfl
      rw [e]; exact rp_2 l hl T hT hTl hv hc w
    · have hMk : Mk l T := ⟨hl, hT, hTl, hv, fun k hk hg => by
        have := List.all_eq_true.1 hc l[k] (by
          rw [List.mem_take_iff_getElem]
          exact ⟨k, by omega, rfl⟩)
        unfold Gu.ctl at this
        simp at this
        exact ⟨by omega, this.2⟩⟩
      rw [hv, hc] at hP
      have hbd := Gu.sch_bd (l.take T)
      have htl : (l.take T).length = T := by simp; omega
      rw [htl] at hbd
      obtain ⟨n, b, hs⟩ : ∃ n b, Gu.sch 0 (l.take T) = (n, b) := ⟨_, _, rfl⟩
      rw [hs] at hP hbd hrest
      cases b
      · have e : Gu.parse l = none := by rw [hP]; rfl
        rw [e]; exact rp_3 l T hMk (by rw [hs]; rfl) w
      · obtain ⟨a, rfl⟩ : ∃ a : Nat, n = (a : Int) - 1 := ⟨(n + 1).toNat, by simp only at hbd; omega⟩
        simp only at hbd hrest hP
        have haT : a ≤ T := by omega
        have hsc : conv (Gu.sch 0 (l.take T)) = (a : Int) := by rw [hs]; simp [conv]
        rw [show ((a : Int) - 1 + 1).toNat = a by omega] at hrest
        obtain ⟨e, hee⟩ : ∃ e, fst [63] (l.take T) a = e := ⟨_, rfl⟩
        have he1 : e = a + (Gu.bef 63 ((l.take T).drop a)).length := by rw [← hee, fst_one]
        have hae : a ≤ e := by omega
        have heT : e ≤ T := by have := Gu.bef_len 63 ((l.take T).drop a); rw [List.length_drop, htl] at this; omega
        have hR : Gu.rest l = lef l e a := by
          have h1 : lef l e a = ((l.take T).drop a).take (e - a) := by rw [← lef_of_take l T e a heT, List.drop_take]
          rw [hrest, h1, show e - a = (Gu.bef 63 ((l.take T).drop a)).length by omega, bef_take]
        rw [hR] at hP
        have hel : e ≤ l.length := by omega
        have hRl : (lef l e a).length = e - a := lef_len l e a hel
        cases hp : List.isPrefixOf [47] (lef l e a)
        · rw [hp] at hP
          by_cases ha0 : 0 < a
          · have e' : Gu.parse l = some ([], []) := by rw [hP]; simp; omega
            rw [e']; exact rp_4 l T hMk a e hsc haT hee hae heT hp ha0 w
          · obtain rfl : a = 0 := by omega
            have hP2 : Gu.parse l = if Gu.mem (Gu.bef 47 (lef l e 0)) 58 then none else Gu.rooted (lef l e 0) false := by rw [hP]; simp
            have hcc : fst [58] (l.take e) 0 < fst [47] (l.take e) 0 ↔ Gu.mem (Gu.bef 47 (lef l e 0)) 58 = true := by
              rw [fst_one, fst_one, ← mem_bef]
              show 0 + (Gu.bef 58 (lef l e 0)).length < 0 + (Gu.bef 47 (lef l e 0)).length ↔ _
              omega
            cases hm : Gu.mem (Gu.bef 47 (lef l e 0)) 58
            · rw [hm] at hP2 hcc
              have hn : ¬ fst [58] (l.take e) 0 < fst [47] (l.take e) 0 := fun g => by have := hcc.1 g; cases this
              have h2 := pre_two hp
              have hr : Gu.parse l = if Pc.valid (lef l e 0) then some ([], lef l e 0) else none := by
                rw [hP2]
                show Gu.rooted (lef l e 0) false = _
                rw [rooted_nt (by unfold Gu.two; rw [h2]; rfl)]
              cases hv2 : Pc.valid (lef l e 0)
              · rw [hv2] at hr; rw [hr]; exact rp_6n l T hMk e hsc hee heT hp hn h2 hv2 w
              · rw [hv2] at hr; rw [hr]; exact rp_6y l T hMk e hsc hee heT hp hn h2 hv2 w
            · rw [hm] at hP2
              rw [hP2]; exact rp_5 l T hMk e hsc hee heT hp (hcc.2 hm) w
        · rw [hp] at hP
          have hs1 : decide (0 ≤ (a : Int) - 1) = decide (0 < a) := by rw [Bool.eq_iff_iff]; simp; omega
          have hP2 : Gu.parse l = Gu.rooted (lef l e a) (decide (0 < a)) := by rw [hP, ← hs1]; rfl
          cases h2 : List.isPrefixOf [47, 47] (lef l e a)
          · have hr : Gu.parse l = if Pc.valid (lef l e a) then some ([], lef l e a) else none := by rw [hP2, rooted_nt (by unfold Gu.two; rw [h2]; rfl)]
            cases hv2 : Pc.valid (lef l e a)
            · rw [hv2] at hr; rw [hr]; exact rp_7n l T hMk a e hsc haT hee hae heT hp h2 hv2 w
            · rw [hv2] at hr; rw [hr]; exact rp_7y l T hMk a e hsc haT hee hae heT hp h2 hv2 w
          · have h2e : a + 2 ≤ e := by have := pre_len h2; omega
            obtain ⟨t, hte⟩ : ∃ t, fst [47] (l.take e) (a + 2) = t := ⟨_, rfl⟩
            have ht1 : t = a + 2 + (Gu.bef 47 (lef l e (a + 2))).length := by rw [← hte, fst_one]
            have hbl := Gu.bef_len 47 (lef l e (a + 2))
            rw [lef_len l e (a + 2) hel] at hbl
            have hft : a + 2 ≤ t := by omega
            have htE : t ≤ e := by omega
            have hauth : (lef l e a).drop 2 = lef l e (a + 2) := lef_drop l e a 2
            have hb1 : Gu.bef 47 (lef l e (a + 2)) = lef l t (a + 2) := by
              rw [← bef_take, lef_take l e (a + 2) _ (by omega), ← ht1]
            have hb2 : (lef l e (a + 2)).drop (Gu.bef 47 (lef l e (a + 2))).length = lef l e t := by rw [lef_drop, ← ht1]
            have hroot : Gu.two (lef l e a) (decide (0 < a)) = true → Gu.parse l = if (Gu.host (lef l t (a + 2))).2 then if Pc.valid (lef l e t) then some ((Gu.host (lef l t (a + 2))).1, lef l e t) else none else none := by
              intro g
              rw [hP2, rooted_two g, hauth, hb2, hb1]
            by_cases ha0 : 0 < a
            · have hr := hroot (by unfold Gu.two; rw [h2, decide_eq_true ha0]; rfl)
              rcases host_cases l (a + 2) t hft (by omega) with ⟨hsp, hh⟩ | ⟨p, hsp, hfp, hpt, hh⟩
              · rw [hh] at hr
                rcases plc_cases (a + 2) (lef l t (a + 2)) with ⟨q1, q2⟩ | ⟨q1, m, hm, q2, q3⟩
                · rw [q1] at hr; rw [hr]; exact rp_a_no_no l T hMk a e hsc haT hee hae heT hp h2 ha0 h2e t hte hft htE hsp q2 w
                · rw [lef_len l t (a + 2) (by omega)] at hm
                  rw [q1, q3, lef_take l t (a + 2) m (by omega)] at hr
                  cases hv2 : Pc.valid (lef l e t)
                  · rw [hv2] at hr; rw [hr]; exact rp_a_no_yn l T hMk a e hsc haT hee hae heT hp h2 ha0 h2e t hte hft htE hsp _ q2 (by omega) (by omega) hv2 w
                  · rw [hv2] at hr; rw [hr]; exact rp_a_no_yy l T hMk a e hsc haT hee hae heT hp h2 ha0 h2e t hte hft htE hsp _ q2 (by omega) (by omega) hv2 w
              · rw [hh] at hr
                cases hus : Gu.usr (lef l p (a + 2))
                · rw [hus] at hr; rw [hr]; exact rp_a_bad l T hMk a e hsc haT hee hae heT hp h2 ha0 h2e t hte hft htE p hsp hfp hpt hus w
                · rw [hus] at hr
                  simp only [if_true] at hr
                  rcases plc_cases (p + 1) (lef l t (p + 1)) with ⟨q1, q2⟩ | ⟨q1, m, hm, q2, q3⟩
                  · rw [q1] at hr; rw [hr]; exact rp_a_ok_no l T hMk a e hsc haT hee hae heT hp h2 ha0 h2e t hte hft htE p hsp hfp hpt hus q2 w
                  · rw [lef_len l t (p + 1) (by omega)] at hm
                    rw [q1, q3, lef_take l t (p + 1) m (by omega)] at hr
                    cases hv2 : Pc.valid (lef l e t)
                    · rw [hv2] at hr; rw [hr]; exact rp_a_ok_yn l T hMk a e hsc haT hee hae heT hp h2 ha0 h2e t hte hft htE p hsp hfp hpt hus _ q2 (by omega) (by omega) hv2 w
                    · rw [hv2] at hr; rw [hr]; exact rp_a_ok_yy l T hMk a e hsc haT hee hae heT hp h2 ha0 h2e t hte hft htE p hsp hfp hpt hus _ q2 (by omega) (by omega) hv2 w
            · obtain rfl : a = 0 := by omega
              cases h3 : List.isPrefixOf [47, 47, 47] (lef l e 0)
              · have hr := hroot (by unfold Gu.two; rw [h2, h3]; rfl)
                simp only [Nat.zero_add] at hr hte hft h2e ht1
                rcases host_cases l 2 t hft (by omega) with ⟨hsp, hh⟩ | ⟨p, hsp, hfp, hpt, hh⟩
                · rw [hh] at hr
                  rcases plc_cases 2 (lef l t 2) with ⟨q1, q2⟩ | ⟨q1, m, hm, q2, q3⟩
                  · rw [q1] at hr; rw [hr]; exact rp_z_no_no l T hMk e hsc hee heT hp h2 h3 h2e t hte hft htE hsp q2 w
                  · rw [lef_len l t 2 (by omega)] at hm
                    rw [q1, q3, lef_take l t 2 m (by omega)] at hr
                    cases hv2 : Pc.valid (lef l e t)
                    · rw [hv2] at hr; rw [hr]; exact rp_z_no_yn l T hMk e hsc hee heT hp h2 h3 h2e t hte hft htE hsp _ q2 (by omega) (by omega) hv2 w
                    · rw [hv2] at hr; rw [hr]; exact rp_z_no_yy l T hMk e hsc hee heT hp h2 h3 h2e t hte hft htE hsp _ q2 (by omega) (by omega) hv2 w
                · rw [hh] at hr
                  cases hus : Gu.usr (lef l p 2)
                  · rw [hus] at hr; rw [hr]; exact rp_z_bad l T hMk e hsc hee heT hp h2 h3 h2e t hte hft htE p hsp hfp hpt hus w
                  · rw [hus] at hr
                    simp only [if_true] at hr
                    rcases plc_cases (p + 1) (lef l t (p + 1)) with ⟨q1, q2⟩ | ⟨q1, m, hm, q2, q3⟩
                    · rw [q1] at hr; rw [hr]; exact rp_z_ok_no l T hMk e hsc hee heT hp h2 h3 h2e t hte hft htE p hsp hfp hpt hus q2 w
                    · rw [lef_len l t (p + 1) (by omega)] at hm
                      rw [q1, q3, lef_take l t (p + 1) m (by omega)] at hr
                      cases hv2 : Pc.valid (lef l e t)
                      · rw [hv2] at hr; rw [hr]; exact rp_z_ok_yn l T hMk e hsc hee heT hp h2 h3 h2e t hte hft htE p hsp hfp hpt hus _ q2 (by omega) (by omega) hv2 w
                      · rw [hv2] at hr; rw [hr]; exact rp_z_ok_yy l T hMk e hsc hee heT hp h2 h3 h2e t hte hft htE p hsp hfp hpt hus _ q2 (by omega) (by omega) hv2 w
              · have hr : Gu.parse l = if Pc.valid (lef l e 0) then some ([], lef l e 0) else none := by rw [hP2, rooted_nt (by unfold Gu.two; rw [h2, h3]; rfl)]
                cases hv2 : Pc.valid (lef l e 0)
                · rw [hv2] at hr; rw [hr]; exact rp_8n l T hMk e hsc hee heT hp h2 h3 hv2 w
                · rw [hv2] at hr; rw [hr]; exact rp_8y l T hMk e hsc hee heT hp h2 h3 hv2 w
end Go.Proofs.Ytpccfagbmbbpkaa
