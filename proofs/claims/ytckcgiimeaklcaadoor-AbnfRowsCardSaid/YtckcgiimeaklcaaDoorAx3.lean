/-
  The reader's name: walked.
-/
import Derived.Test.YtckcgiimeaklcaaDoorAx1
namespace Go.Proofs.YtckcgiimeaklcaaDoor
set_option linter.unusedVariables false
set_option linter.unusedSimpArgs false
open Go.RowKit Go.Proofs.YtckcgiimeaklcaaDoorW.PrintWords
open Ab (T El R Rs sz rootI post els root hasR szs)

namespace Ab
def okAt (l : B) (k : Nat) : Bool := match l[k]? with
  | none => false
  | some c => letter c || (decide (0 < k) && (dig c || c == 45))
def nmN (l : B) : Nat := (name l).1.length
theorem tw_at {α : Type} (p : α → Bool) : ∀ (l : List α) (i : Nat), i < (l.takeWhile p).length → ∃ c, l[i]? = some c ∧ p c = true
  | [], i, h => by simp at h
  | c :: t, i, h => by
    by_cases hc : p c = true
    · rw [List.takeWhile_cons_of_pos hc] at h
      cases i with
      | zero => exact ⟨c, rfl, hc⟩
      | succ i => exact tw_at p t i (by simpa using h)
    · rw [List.takeWhile_cons_of_neg hc] at h; simp at h
theorem tw_end {α : Type} (p : α → Bool) : ∀ (l : List α) (c : α), l[(l.takeWhile p).length]? = some c → p c = false
  | [], c, h => by simp at h
  | d :: t, c, h => by
    by_cases hc : p d = true
    · rw [List.takeWhile_cons_of_pos hc] at h
      exact tw_end p t c (by simpa using h)
    · rw [List.takeWhile_cons_of_neg hc] at h
      simp at h; subst h; simpa using hc
theorem nm_yes (l : B) (k : Nat) (h : k < nmN l) : okAt l k = true := by
  unfold nmN at h
  rcases l with _ | ⟨c, t⟩
  · simp [name] at h
  · by_cases hc : letter c = true
    · have e : (name (c :: t)).1 = c :: t.takeWhile nmc := by simp [name, hc]
      rw [e] at h
      cases k with
      | zero => simp [okAt, hc]
      | succ k =>
        obtain ⟨d, hd, hp⟩ := tw_at nmc t k (by simpa using h)
        unfold nmc at hp
        simp only [okAt, List.getElem?_cons_succ, hd]
        simpa [Bool.or_assoc] using hp
    · have e : (name (c :: t)).1 = [] := by simp [name, hc]
      rw [e] at h; simp at h
theorem nm_no (l : B) (h : nmN l < l.length) : okAt l (nmN l) = false := by
  rcases l with _ | ⟨c, t⟩
  · simp at h
  · by_cases hc : letter c = true
    · have e : nmN (c :: t) = (t.takeWhile nmc).length + 1 := by simp [nmN, name, hc]
      rw [e] at h ⊢
      have h2 : (t.takeWhile nmc).length < t.length := by simpa using h
      have := tw_end nmc t _ (List.getElem?_eq_getElem h2)
      have e2 : ∀ d, nmc d = (letter d || dig d || d == 45) := fun _ => rfl
      rw [e2] at this
      simp only [okAt, List.getElem?_cons_succ, List.getElem?_eq_getElem h2]
      simpa [Bool.or_assoc] using this
    · have e : nmN (c :: t) = 0 := by simp [nmN, name, hc]
      rw [e]; simp [okAt, hc]
theorem nm_step {l : B} {k : Nat} (h : k ≤ nmN l) (ok : okAt l k = true) : k + 1 ≤ nmN l := by
  rcases Nat.lt_or_ge k (nmN l) with h1 | h1
  · exact h1
  · have e : k = nmN l := by omega
    subst e
    by_cases h2 : nmN l < l.length
    · rw [nm_no l h2] at ok; cases ok
    · rw [okAt, List.getElem?_eq_none (by omega)] at ok; cases ok
theorem nm_le (l : B) : nmN l ≤ l.length := by
  rcases Nat.lt_or_ge l.length (nmN l) with h | h
  · have := nm_yes l _ h
    rw [okAt, List.getElem?_eq_none (by omega)] at this; cases this
  · exact h
theorem nm_stop {l : B} {k : Nat} (h : k ≤ nmN l) (ok : okAt l k = false) : k = nmN l := by
  rcases Nat.lt_or_ge k (nmN l) with h1 | h1
  · rw [nm_yes l k h1] at ok; cases ok
  · omega
theorem name_eq (l : B) : name l = (l.take (nmN l), l.drop (nmN l)) := by
  rcases l with _ | ⟨c, t⟩
  · rfl
  · by_cases hc : letter c = true
    · have e : nmN (c :: t) = (t.takeWhile nmc).length + 1 := by simp [nmN, name, hc]
      rw [e]
      have h := List.takeWhile_append_dropWhile (p := nmc) (l := t)
      have h1 := List.take_left (l₁ := t.takeWhile nmc) (l₂ := t.dropWhile nmc)
      have h2 := List.drop_left (l₁ := t.takeWhile nmc) (l₂ := t.dropWhile nmc)
      rw [h] at h1 h2
      simp [name, hc, h1, h2]
    · have e : nmN (c :: t) = 0 := by simp [nmN, name, hc]
      rw [e]; simp [name, hc]
end Ab
section
variable {w0 w : World} {base gg gr bm : Nat} {l : List UInt8} {ln : Int} {op : Nat} {es : List El} {ls : List Int} {rs : Rs} {vE vL : Value}
set_option maxRecDepth 100000 in
set_option maxHeartbeats 3200000 in
theorem name_any (h : RSv w base gg gr bm l ln op es ls rs vE vL) : Calls Tryd.prog 25 #[.pointer (some ⟨gr, 0, none⟩)] w fun e w' => e = .returned (.string ⟨(Ab.name l).1.toArray⟩) ∧ RSv w' base gg gr bm (Ab.name l).2 ln op es ls rs vE vL ∧ Kp base gg bm w w' := by
  have H := Lib.hid h
  obtain ⟨c0, c1, c2, c3⟩ := h.cells
  have f1 := h.ice 1
  have HE := Lib.hid (Ab.name_eq l)
  have HLL := Lib.hid h.ll
  have HNL := Lib.hid (Ab.nm_le l)
  clear h
  go_enter Tryd.func25, Tryd.ntmps25
  go_wp2_with fail
  go_loop [3] (fun x => ∃ k : Nat, k ≤ Ab.nmN l ∧ x = .int .i64 k) (fun x => l.length - (RowKit.intOf x).toNat)
  case atStart => exact ⟨0, by omega, rfl⟩
  case round =>
    obtain ⟨k, hk, rfl⟩ := hrel
    have HK := Lib.hid hk
    clear hk
    have hkl : (k : Int) ≤ l.length := by have := HK.out; have := HNL.out; omega
    have W1 : IntKind.i64.wrap ((k : Int) + 1) = (k : Int) + 1 := IntWalk.i64_in _ (by have := HLL.out; omega)
    rcases Nat.lt_or_ge k l.length with hlt | hge
    · have t1 : decide ((k : Int) < (l.length : Int)) = true := decide_eq_true (by omega)
      obtain ⟨c, hc⟩ : ∃ c, l[k] = c := ⟨_, rfl⟩
      have hok := Ab.okAt
      have HO := Lib.hid (show Ab.okAt l k = (Ab.letter c || (decide (0 < k) && (Ab.dig c || c == 45))) by unfold Ab.okAt; rw [List.getElem?_eq_getElem hlt, hc])
      have h0 : (0 : Int) ≤ k := by omega
      have h1 : (k : Int) < (l.length : Int) := by omega
      clear hok
      cases hL : Ab.letter c
      · cases hD : Ab.dig c
        · cases h45 : (c == (45 : UInt8))
          · have t45 : ((c.toNat : Int) == 45) = false := by have := u8_beq c 45; rw [h45] at this; exact this
            have HOK : Hid (Ab.okAt l k = false) := Lib.hid (by rw [HO.out, hL, hD, h45]; simp)
            clear h45
            rcases Nat.lt_or_ge 0 k with hk0 | hk0
            · have t0 : decide ((0 : Int) < (k : Int)) = true := decide_eq_true (by omega)
              have hz : Hid (k = Ab.nmN l) := Lib.hid (Ab.nm_stop HK.out HOK.out)
              have i1 : (0 : Int) ≤ k := by omega
              go_wp2_with (first | (go_at_call 38; refine (letter_any c _).mono ?_; rintro e w1 ⟨rfl, rfl⟩; simp only [hL]) | (go_at_call 39; refine (digit_any c _).mono ?_; rintro e w1 ⟨rfl, rfl⟩; simp only [hD]))
              go_ret
              rw [HE.out, ← hz.out]
              exact ⟨by first | rfl | (simp; done) | (simp; omega), H.out.setS (l.drop k) (by rw [List.length_drop]; omega), H.out.kset (Kp.refl _ _ _ _) 1 _⟩
            · have t0 : decide ((0 : Int) < (k : Int)) = false := decide_eq_false (by omega)
              have hz : Hid (k = Ab.nmN l) := Lib.hid (Ab.nm_stop HK.out HOK.out)
              have i1 : (0 : Int) ≤ k := by omega
              go_wp2_with (first | (go_at_call 38; refine (letter_any c _).mono ?_; rintro e w1 ⟨rfl, rfl⟩; simp only [hL]) | (go_at_call 39; refine (digit_any c _).mono ?_; rintro e w1 ⟨rfl, rfl⟩; simp only [hD]))
              go_ret
              rw [HE.out, ← hz.out]
              exact ⟨by first | rfl | (simp; done) | (simp; omega), H.out.setS (l.drop k) (by rw [List.length_drop]; omega), H.out.kset (Kp.refl _ _ _ _) 1 _⟩
          · have t45 : ((c.toNat : Int) == 45) = true := by have := u8_beq c 45; rw [h45] at this; exact this
            rcases Nat.lt_or_ge 0 k with hk0 | hk0
            · have t0 : decide ((0 : Int) < (k : Int)) = true := decide_eq_true (by omega)
              have HOK : Hid (Ab.okAt l k = true) := Lib.hid (by rw [HO.out, hL, hD, h45, decide_eq_true hk0]; rfl)
              clear h45
              go_wp2_with (first | (go_at_call 38; refine (letter_any c _).mono ?_; rintro e w1 ⟨rfl, rfl⟩; simp only [hL]) | (go_at_call 39; refine (digit_any c _).mono ?_; rintro e w1 ⟨rfl, rfl⟩; simp only [hD]))
              go_round
              case rel => exact ⟨k + 1, Ab.nm_step HK.out HOK.out, by go_num⟩
              case measure => simp [RowKit.intOf]; omega
            · have t0 : decide ((0 : Int) < (k : Int)) = false := decide_eq_false (by omega)
              have HOK : Hid (Ab.okAt l k = false) := Lib.hid (by rw [HO.out, hL, hD, h45, decide_eq_false (by omega)]; rfl)
              clear h45
              have hz : Hid (k = Ab.nmN l) := Lib.hid (Ab.nm_stop HK.out HOK.out)
              have i1 : (0 : Int) ≤ k := by omega
              go_wp2_with (first | (go_at_call 38; refine (letter_any c _).mono ?_; rintro e w1 ⟨rfl, rfl⟩; simp only [hL]) | (go_at_call 39; refine (digit_any c _).mono ?_; rintro e w1 ⟨rfl, rfl⟩; simp only [hD]))
              go_ret
              rw [HE.out, ← hz.out]
              exact ⟨by first | rfl | (simp; done) | (simp; omega), H.out.setS (l.drop k) (by rw [List.length_drop]; omega), H.out.kset (Kp.refl _ _ _ _) 1 _⟩
        · rcases Nat.lt_or_ge 0 k with hk0 | hk0
          · have t0 : decide ((0 : Int) < (k : Int)) = true := decide_eq_true (by omega)
            have HOK : Hid (Ab.okAt l k = true) := Lib.hid (by rw [HO.out, hL, hD, decide_eq_true hk0]; rfl)
            go_wp2_with (first | (go_at_call 38; refine (letter_any c _).mono ?_; rintro e w1 ⟨rfl, rfl⟩; simp only [hL]) | (go_at_call 39; refine (digit_any c _).mono ?_; rintro e w1 ⟨rfl, rfl⟩; simp only [hD]))
            go_round
            case rel => exact ⟨k + 1, Ab.nm_step HK.out HOK.out, by go_num⟩
            case measure => simp [RowKit.intOf]; omega
          · have t0 : decide ((0 : Int) < (k : Int)) = false := decide_eq_false (by omega)
            have HOK : Hid (Ab.okAt l k = false) := Lib.hid (by rw [HO.out, hL, hD, decide_eq_false (by omega)]; rfl)
            have hz : Hid (k = Ab.nmN l) := Lib.hid (Ab.nm_stop HK.out HOK.out)
            have i1 : (0 : Int) ≤ k := by omega
            go_wp2_with (first | (go_at_call 38; refine (letter_any c _).mono ?_; rintro e w1 ⟨rfl, rfl⟩; simp only [hL]) | (go_at_call 39; refine (digit_any c _).mono ?_; rintro e w1 ⟨rfl, rfl⟩; simp only [hD]))
            go_ret
            rw [HE.out, ← hz.out]
            exact ⟨by first | rfl | (simp; done) | (simp; omega), H.out.setS (l.drop k) (by rw [List.length_drop]; omega), H.out.kset (Kp.refl _ _ _ _) 1 _⟩
      · have HOK : Hid (Ab.okAt l k = true) := Lib.hid (by rw [HO.out, hL]; rfl)
        have hD := hL
        go_wp2_with (first | (go_at_call 38; refine (letter_any c _).mono ?_; rintro e w1 ⟨rfl, rfl⟩; simp only [hL]) | (go_at_call 39; refine (digit_any c _).mono ?_; rintro e w1 ⟨rfl, rfl⟩; simp only [hD]))
        go_round
        case rel => exact ⟨k + 1, Ab.nm_step HK.out HOK.out, by go_num⟩
        case measure => simp [RowKit.intOf]; omega
    · have t1 : decide ((k : Int) < (l.length : Int)) = false := decide_eq_false (by omega)
      have HOK : Hid (Ab.okAt l k = false) := Lib.hid (by rw [Ab.okAt, List.getElem?_eq_none (by omega)])
      have hz : Hid (k = Ab.nmN l) := Lib.hid (Ab.nm_stop HK.out HOK.out)
      have i1 : (0 : Int) ≤ k := by omega
      go_wp2_with fail
      go_ret
      have hd : l.drop k = [] := List.drop_eq_nil_of_le hge
      have ht : l.take k = l := List.take_of_length_le hge
      rw [HE.out, ← hz.out]
      simp only [hd, ht]
      exact ⟨by first | rfl | (simp; done), H.out.setS [] (by simp), H.out.kset (Kp.refl _ _ _ _) 1 _⟩
end
end Go.Proofs.YtckcgiimeaklcaaDoor
