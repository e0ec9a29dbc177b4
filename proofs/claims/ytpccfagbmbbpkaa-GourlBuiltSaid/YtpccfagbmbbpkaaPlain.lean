/-
  Plain facts on hex digits, escapes and sets of bytes: no program in sight.
-/
import Derived.Laws.BytesArg
namespace Go.Proofs.Ytpccfagbmbbpkaa
namespace Pc

/-! ### hex digits, over Int -/
def ok (c : Int) : Bool := decide (48 ≤ c ∧ c ≤ 57) || decide (97 ≤ c ∧ c ≤ 102) || decide (65 ≤ c ∧ c ≤ 70)
def v (c : Int) : Int := if 48 ≤ c ∧ c ≤ 57 then c - 48 else if 97 ≤ c ∧ c ≤ 102 then c - 87 else if 65 ≤ c ∧ c ≤ 70 then c - 55 else 0
theorem v_bd (c : Int) : 0 ≤ v c ∧ v c ≤ 15 := by unfold v; omega

/-! ### escapes -/
abbrev B := List UInt8
def escOk : B → Bool
  | a :: b :: c :: _ => a == 37 && ok b.toNat && ok c.toNat
  | _ => false
def escX : B → Int
  | a :: b :: c :: _ => if a = 37 then 16 * v b.toNat + v c.toNat else 0
  | _ => 0
theorem escX_bd (l : B) : 0 ≤ escX l ∧ escX l ≤ 255 := by
  unfold escX
  split
  · rename_i a b c _
    have h1 := v_bd b.toNat
    have h2 := v_bd c.toNat
    split <;> omega
  · omega
def valid : B → Bool
  | [] => true
  | c :: t => !(c == 37 && !escOk (c :: t)) && valid t
def escB (l : B) : UInt8 := UInt8.ofNat (escX l).toNat
def dec : B → B
  | [] => []
  | c :: t => if escOk (c :: t) then escB (c :: t) :: dec (t.drop 2) else c :: dec t
termination_by l => l.length
decreasing_by all_goals (simp_wf <;> omega)
def up1 (c : UInt8) : UInt8 := if 97 ≤ c.toNat then c - 32 else c
def upper : B → B
  | [] => []
  | c :: t => if escOk (c :: t) then c :: (t.take 2).map up1 ++ upper (t.drop 2) else c :: upper t
termination_by l => l.length
decreasing_by all_goals (simp_wf <;> omega)

def dig (n : Nat) : UInt8 := if n < 10 then UInt8.ofNat (48 + n) else UInt8.ofNat (55 + n)
def enc1 (has : Nat → Bool) (c : UInt8) : B := if c != 37 && has c.toNat then [c] else [37, dig (c.toNat / 16), dig (c.toNat % 16)]
def enc (has : Nat → Bool) (l : B) : B := l.flatMap (enc1 has)
theorem enc_cons (has : Nat → Bool) (c : UInt8) (t : B) : enc has (c :: t) = enc1 has c ++ enc has t := rfl
theorem enc1_len (has : Nat → Bool) (c : UInt8) : (enc1 has c).length ≤ 3 := by unfold enc1; split <;> simp
theorem enc_len (has : Nat → Bool) (l : B) : (enc has l).length ≤ 3 * l.length := by
  induction l with
  | nil => simp [enc]
  | cons c t ih => rw [enc_cons, List.length_append, List.length_cons]; have := enc1_len has c; omega

/-! ### Upper, as the program goes: place by place in one row -/
def upd (k : Nat) (m : B) : B := m.set k (up1 (m.getD k 0))
def stepAt (l : B) (k : Nat) (m : B) : B := if escOk (l.drop k) then upd (k + 2) (upd (k + 1) m) else m
def iter (l m : B) : Nat → B
  | 0 => m
  | k + 1 => stepAt l k (iter l m k)
theorem upd_len (k : Nat) (m : B) : (upd k m).length = m.length := by simp [upd]
theorem iter_len (l m : B) (k : Nat) : (iter l m k).length = m.length := by
  induction k with
  | zero => rfl
  | succ k ih => rw [iter, stepAt]; split <;> simp [upd_len, ih]
theorem upd_cons (k : Nat) (d : UInt8) (m : B) : upd (k + 1) (d :: m) = d :: upd k m := by simp [upd]
theorem iter_cons (c d : UInt8) (t m : B) (k : Nat) : iter (c :: t) (d :: m) (k + 1) = d :: iter t (if escOk (c :: t) then upd 1 (upd 0 m) else m) k := by
  induction k with
  | zero =>
    rw [iter, iter, stepAt, List.drop_zero, iter]
    split
    · rw [upd_cons, upd_cons]
    · rfl
  | succ k ih =>
    rw [iter, ih, iter, stepAt, stepAt, List.drop_succ_cons]
    split
    · rw [upd_cons, upd_cons]
    · rfl
theorem escOk_shape {c : UInt8} {t : B} (h : escOk (c :: t) = true) : ∃ a b t', t = a :: b :: t' ∧ ok a.toNat = true ∧ ok b.toNat = true ∧ c = 37 := by
  rcases t with _ | ⟨a, _ | ⟨b, t'⟩⟩
  · simp [escOk] at h
  · simp [escOk] at h
  · simp [escOk] at h
    exact ⟨a, b, t', rfl, h.1.2, h.2, h.1.1⟩
theorem esc_not {c : UInt8} {t : B} (h : ok c.toNat = true) : escOk (c :: t) = false := by
  have hc : c ≠ 37 := by
    rintro rfl
    revert h; decide
  rcases t with _ | ⟨a, _ | ⟨b, t'⟩⟩ <;> simp [escOk, hc]
theorem iter_upper (n : Nat) : ∀ l : B, l.length ≤ n → iter l l l.length = upper l := by
  induction n using Nat.strongRecOn with
  | _ n ih =>
    intro l hl
    rcases l with _ | ⟨c, t⟩
    · simp [iter, upper]
    · rw [List.length_cons, iter_cons, upper]
      cases he : escOk (c :: t)
      · simp only [Bool.false_eq_true, if_false]
        simp at hl
        rw [ih t.length (by omega) t (Nat.le_refl _)]
      · obtain ⟨a, b, t', rfl, ha, hb, _⟩ := escOk_shape he
        simp only [if_true, List.length_cons]
        have e : upd 1 (upd 0 (a :: b :: t')) = up1 a :: up1 b :: t' := by simp [upd]
        rw [e, iter_cons]
        simp only [esc_not ha, Bool.false_eq_true, if_false]
        rw [iter_cons]
        simp only [esc_not hb, Bool.false_eq_true, if_false]
        simp at hl
        rw [ih t'.length (by omega) t' (Nat.le_refl _)]
        simp

theorem escOk_short {l : B} {k : Nat} (h : ¬ k + 2 < l.length) : escOk (l.drop k) = false := by
  have : (l.drop k).length ≤ 2 := by rw [List.length_drop]; omega
  rcases hd : l.drop k with _ | ⟨a, _ | ⟨b, _ | ⟨c, t⟩⟩⟩
  · rfl
  · rfl
  · rfl
  · rw [hd] at this; simp at this
theorem escOk_at {l : B} {k : Nat} (h : k + 2 < l.length) : escOk (l.drop k) = (l[k] == 37 && ok l[k + 1].toNat && ok l[k + 2].toNat) := by
  rw [List.drop_eq_getElem_cons (show k < l.length by omega), List.drop_eq_getElem_cons (show k + 1 < l.length by omega), List.drop_eq_getElem_cons (show k + 1 + 1 < l.length by omega)]
  rfl
theorem escX_at {l : B} {k : Nat} (h : k + 2 < l.length) (h37 : l[k] = 37) : escX (l.drop k) = 16 * v l[k + 1].toNat + v l[k + 2].toNat := by
  rw [List.drop_eq_getElem_cons (show k < l.length by omega), List.drop_eq_getElem_cons (show k + 1 < l.length by omega), List.drop_eq_getElem_cons (show k + 1 + 1 < l.length by omega)]
  show (if l[k] = 37 then _ else _) = _
  rw [if_pos h37]

end Pc
end Go.Proofs.Ytpccfagbmbbpkaa
