/-
  What AbnfRows comes to, plain; Derives by trees.
-/
import Derived.Test.YtckcgiimeaklcaaDoorLn
import Derived.Test.YtckcgiimeaklcaaDoorLa
namespace Go.Proofs.YtckcgiimeaklcaaDoor
set_option linter.unusedVariables false
set_option linter.unusedSimpArgs false
open Go.RowKit Go.Proofs.YtckcgiimeaklcaaDoorW.PrintWords
open Ab (T El R Rs sz rootI post els root hasR szs Tb TT)
namespace Ab
/-- What Derives says, by trees. -/
def Tells (rs : Rs) (r d : B) (b : Bool) (x : Int) : Prop := match env rs r with
  | none => b = false ∧ x = 4
  | some t => x = 0 ∧ (b = true ↔ D (env rs) d t 0 d.length)
theorem bool_iff {a b : Bool} (h : a = true ↔ b = true) : a = b := by
  cases a <;> cases b <;> simp at h <;> rfl
theorem tells_turned {rs : Rs} (hn : (rs.map (·.1)).Nodup) {r d : B} {b b' : Bool} {x x' : Int} (h : Tells rs r d b x) (h' : Tells rs.reverse r d b' x') : b' = b ∧ x' = x := by
  have hn' : (rs.reverse.map (·.1)).Nodup := by rw [List.map_reverse]; unfold List.Nodup at hn ⊢; rw [List.pairwise_reverse]; exact hn.imp (fun h e => h e.symm)
  have he : env rs = env rs.reverse := funext fun b => env_same hn hn' (fun r => List.mem_reverse.symm) b
  unfold Tells at h h'
  rw [← he] at h'
  cases ht : env rs r with
  | none => rw [ht] at h h'; exact ⟨h'.1.trans h.1.symm, h'.2.trans h.2.symm⟩
  | some t => rw [ht] at h h'; exact ⟨bool_iff (h'.2.trans h.2.symm), h'.1.trans h.1.symm⟩
theorem tells_more {rs : Rs} (hn : (rs.map (·.1)).Nodup) (hc : Cl rs) (hz : hasR rs zz = false) {r d : B} (hr : r ≠ zz) {b b' : Bool} {x x' : Int} (h : Tells rs r d b x) (h' : Tells ((zz, zT) :: rs.reverse) r d b' x') : b' = b ∧ x' = x := by
  have hn' : (rs.reverse.map (·.1)).Nodup := by rw [List.map_reverse]; unfold List.Nodup at hn ⊢; rw [List.pairwise_reverse]; exact hn.imp (fun h e => h e.symm)
  have he : ∀ c, c ≠ zz → env ((zz, zT) :: rs.reverse) c = env rs c := fun c hcz => by
    show (if zz = c then some zT else env rs.reverse c) = _
    rw [if_neg (fun e => hcz e.symm)]
    exact (env_same hn hn' (fun r => List.mem_reverse.symm) c).symm
  have hnz : ∀ c, hasR rs c = true → c ≠ zz := fun c h e => by rw [e, hz] at h; cases h
  have hP : ∀ c t, env rs c = some t → ∀ q, Nm t q → hasR rs q = true := fun c t h q hq => hc _ (env_mem h) q hq
  have hD : ∀ t, (∀ q, Nm t q → hasR rs q = true) → ∀ i j, (D (env ((zz, zT) :: rs.reverse)) d t i j ↔ D (env rs) d t i j) := fun t ht i j =>
    ⟨fun h => D_env (fun t => ∀ q, Nm t q → hasR rs q = true) (fun a b h => ⟨fun q hq => h q (.inl hq), fun q hq => h q (.inr hq)⟩) (fun a b h => ⟨fun q hq => h q (.inl hq), fun q hq => h q (.inr hq)⟩) (fun a lo hi h => h)
        (fun c t' hc2 e => by rw [he c (hnz c (hc2 c rfl))] at e; exact ⟨e, hP c t' e⟩) h ht,
     fun h => D_env (fun t => ∀ q, Nm t q → hasR rs q = true) (fun a b h => ⟨fun q hq => h q (.inl hq), fun q hq => h q (.inr hq)⟩) (fun a b h => ⟨fun q hq => h q (.inl hq), fun q hq => h q (.inr hq)⟩) (fun a lo hi h => h)
        (fun c t' hc2 e => ⟨by rw [he c (hnz c (hc2 c rfl))]; exact e, hP c t' e⟩) h ht⟩
  unfold Tells at h h'
  rw [he r hr] at h'
  cases ht : env rs r with
  | none => rw [ht] at h h'; exact ⟨h'.1.trans h.1.symm, h'.2.trans h.2.symm⟩
  | some t =>
    rw [ht] at h h'
    refine ⟨bool_iff (h'.2.trans ?_), h'.1.trans h.1.symm⟩
    rw [h.2]
    exact hD t (hP r t ht) 0 d.length
/-! ### the loop that turns the text -/
theorem turnL_app : ∀ (L : List B) (l acc : B), turnL (L ++ [l]) acc = wrapL l ++ 10 :: turnL L acc
  | [], l, acc => rfl
  | x :: L, l, acc => by
    rw [List.cons_append]
    unfold turnL
    exact turnL_app L l _
/-- Behind i bytes: what is turned so far, and where the line begins. -/
def RwSt (text tn : B) (fr i : Nat) : Prop := (i = text.length + 1 ∧ tn = turn text) ∨ ∃ (dn : List B) (cur rest : B), i ≤ text.length ∧ text.drop fr = cur ++ rest ∧ i = fr + cur.length ∧ tn = turnL dn [] ∧ (10 : UInt8) ∉ cur ∧ split text = dn ++ split (cur ++ rest)
theorem rw_start (text : B) : RwSt text [] 0 0 := .inr ⟨[], [], text, by omega, rfl, rfl, rfl, by simp, rfl⟩
theorem split_noline : ∀ l : B, (10 : UInt8) ∉ l → split l = [l]
  | [], _ => rfl
  | c :: t, h => by
    have hc : c ≠ 10 := fun e => h (by simp [e])
    rw [split, if_neg hc, split_noline t (fun e => h (by simp [e]))]
theorem rw_at {text tn : B} {fr i : Nat} (h : RwSt text tn fr i) (hi : i ≤ text.length) : ∃ cur : B, fr ≤ i ∧ cur.length = i - fr ∧ (text.drop fr).take (i - fr) = cur ∧ (∀ (hlt : i < text.length), text[i] ≠ 10 → RwSt text tn fr (i + 1)) ∧ ((∀ (hlt : i < text.length), text[i] = 10) → RwSt text (wrapL cur ++ 10 :: tn) (i + 1) (i + 1)) := by
  rcases h with ⟨h1, _⟩ | ⟨dn, cur, rest, h1, h2, h3, h4, h5, h6⟩
  · omega
  have hfr : fr ≤ text.length := by omega
  have htx : text = text.take fr ++ (cur ++ rest) := by rw [← h2]; exact (List.take_append_drop fr text).symm
  have hl : (text.take fr).length = fr := by rw [List.length_take]; omega
  have hti : text.take i = text.take fr ++ cur := by
    have e : text.take i = (text.take fr ++ cur ++ rest).take i := by rw [List.append_assoc, ← htx]
    rw [e, List.take_left' (by rw [List.length_append, hl, h3])]
  refine ⟨cur, by omega, by omega, ?_, fun hlt hne => ?_, fun hen => ?_⟩
  · rw [h2, List.take_left' (by omega)]
  · cases rest with
    | nil => have := congrArg List.length htx; simp at this; omega
    | cons c r =>
      have hc : text[i] = c := by
        have e : text[i]? = some c := by
          rw [htx, List.getElem?_append_right (by omega), hl, List.getElem?_append_right (by omega), show i - fr - cur.length = 0 by omega]
          rfl
        rw [List.getElem?_eq_getElem hlt] at e
        exact Option.some.inj e
      rw [hc] at hne
      refine .inr ⟨dn, cur ++ [c], r, by omega, by rw [h2]; simp, by simp; omega, h4, ?_, by rw [h6]; simp⟩
      rw [List.mem_append, not_or]
      exact ⟨h5, by simpa using fun e => hne e.symm⟩
  · cases rest with
    | nil =>
      have hil : i = text.length := by have := congrArg List.length htx; simp at this; omega
      refine .inl ⟨by omega, ?_⟩
      unfold turn
      rw [List.append_nil, split_noline cur h5] at h6
      rw [h6, turnL_app, ← h4]
    | cons c r =>
      have hlt : i < text.length := by have := congrArg List.length htx; simp at this; omega
      have hc : c = 10 := by
        have e : text[i]? = some c := by
          rw [htx, List.getElem?_append_right (by omega), hl, List.getElem?_append_right (by omega), show i - fr - cur.length = 0 by omega]
          rfl
        rw [List.getElem?_eq_getElem hlt, hen hlt] at e
        exact (Option.some.inj e).symm
      subst hc
      rw [split_line cur r h5] at h6
      refine .inr ⟨dn ++ [cur], [], r, by omega, ?_, by simp, by rw [turnL_app, h4], by simp, by rw [h6]; simp⟩
      have : text.drop (i + 1) = (text.drop fr).drop (cur.length + 1) := by rw [List.drop_drop]; congr 1; omega
      rw [this, h2, ← List.drop_drop, List.drop_left]
      rfl
theorem rw_end {text tn : B} {fr i : Nat} (h : RwSt text tn fr i) (hi : ¬ i ≤ text.length) : tn = turn text := by
  rcases h with ⟨_, h⟩ | ⟨_, _, _, h1, _⟩
  · exact h
  · exact absurd h1 hi
theorem rw_le {text tn : B} {fr i : Nat} (h : RwSt text tn fr i) : i ≤ text.length + 1 := by
  rcases h with ⟨h, _⟩ | ⟨_, _, _, h1, _⟩ <;> omega
end Ab
section
variable {w : World} {gg bm : Nat} {rs : Rs} {A : Option Addr} {c : Nat} {vL : Value}
theorem derives_tells (h : GramAt w gg bm (els 0 rs) rs A c vL) (hS : Ab.Sound rs) (r : List UInt8) (hr : r.length ≤ maxLen) (d : List UInt8) (hd : d.length ≤ 120) :
    Calls Tryd.prog 6 #[.pointer (some ⟨gg, 0, none⟩), .string ⟨r.toArray⟩, .string ⟨d.toArray⟩] w fun e w' => ∃ (b : Bool) (x : Int), e = .returned (.tuple #[.bool b, .int .i64 x]) ∧ Ab.Tells rs r d b x ∧ Below w.heap.size w w' := by
  cases hh : hasR rs r
  · refine (derives_none h r hr ⟨d.toArray⟩ hh).mono ?_
    rintro e w' ⟨rfl, rfl⟩
    refine ⟨false, 4, rfl, ?_, Below.refl _ _⟩
    unfold Ab.Tells
    have : Ab.env rs r = none := by
      have := Ab.env_has (rs := rs) (b := r)
      rw [hh] at this
      simpa using this
    rw [this]
    exact ⟨rfl, rfl⟩
  · have hz0 : (root 0 rs r).isSome = true := by rw [Ab.root_has]; exact hh
    obtain ⟨k, hk⟩ := Option.isSome_iff_exists.1 hz0
    have hl := (Ab.root_lt r 0 rs k hk).1
    have hz : root 0 rs r = some ((k.toNat : Nat) : Int) := by rw [hk]; congr 1; omega
    refine (derives_any h hS rfl r hr d hd k.toNat hz).mono ?_
    rintro e w' ⟨b, rfl, hb, hB⟩
    obtain ⟨t, ht, hD⟩ := Ab.E_D (w := d) hz (i := 0) (j := d.length)
    refine ⟨b, 0, rfl, ?_, hB⟩
    unfold Ab.Tells
    rw [ht]
    exact ⟨rfl, hb.trans hD⟩
end
end Go.Proofs.YtckcgiimeaklcaaDoor
