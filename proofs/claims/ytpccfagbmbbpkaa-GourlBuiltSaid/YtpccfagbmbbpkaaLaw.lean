/-
  The plain laws of percent: what is encoded is valid and is decoded again, its one form is itself; a one form says the same; valid texts join.
-/
import Derived.Test.YtpccfagbmbbpkaaPlain
namespace Go.Proofs.Ytpccfagbmbbpkaa
namespace Pc

theorem dig_all : ∀ n : Fin 16, ok (dig n.val).toNat = true ∧ v (dig n.val).toNat = n.val ∧ up1 (dig n.val) = dig n.val ∧ dig n.val ≠ 37 := by decide +kernel
theorem ok_dig {n : Nat} (h : n < 16) : ok (dig n).toNat = true := (dig_all ⟨n, h⟩).1
theorem v_dig {n : Nat} (h : n < 16) : v (dig n).toNat = n := (dig_all ⟨n, h⟩).2.1
theorem up_dig {n : Nat} (h : n < 16) : up1 (dig n) = dig n := (dig_all ⟨n, h⟩).2.2.1
theorem ne_dig {n : Nat} (h : n < 16) : dig n ≠ 37 := (dig_all ⟨n, h⟩).2.2.2
theorem esc_ne {c : UInt8} (t : B) (h : c ≠ 37) : escOk (c :: t) = false := by
  rcases t with _ | ⟨a, _ | ⟨b, t'⟩⟩ <;> simp [escOk, h]
theorem valid_ne {c : UInt8} (t : B) (h : c ≠ 37) : valid (c :: t) = valid t := by simp [valid, h]
theorem dec_ne {c : UInt8} (t : B) (h : c ≠ 37) : dec (c :: t) = c :: dec t := by rw [dec, esc_ne t h]; rfl
theorem upper_ne {c : UInt8} (t : B) (h : c ≠ 37) : upper (c :: t) = c :: upper t := by rw [upper, esc_ne t h]; rfl
theorem esc_yes {a b : UInt8} (t : B) (ha : ok a.toNat = true) (hb : ok b.toNat = true) : escOk (37 :: a :: b :: t) = true := by simp [escOk, ha, hb]
theorem ok_ne {a : UInt8} (h : ok a.toNat = true) : a ≠ 37 := by
  rintro rfl
  revert h; decide
theorem valid_yes {a b : UInt8} (t : B) (ha : ok a.toNat = true) (hb : ok b.toNat = true) : valid (37 :: a :: b :: t) = valid t := by
  rw [valid, esc_yes t ha hb, valid_ne _ (ok_ne ha), valid_ne _ (ok_ne hb)]; rfl
theorem dec_yes {a b : UInt8} (t : B) (ha : ok a.toNat = true) (hb : ok b.toNat = true) : dec (37 :: a :: b :: t) = UInt8.ofNat (16 * v a.toNat + v b.toNat).toNat :: dec t := by
  rw [dec, esc_yes t ha hb]; rfl
theorem upper_yes {a b : UInt8} (t : B) (ha : ok a.toNat = true) (hb : ok b.toNat = true) : upper (37 :: a :: b :: t) = 37 :: up1 a :: up1 b :: upper t := by
  rw [upper, esc_yes t ha hb]; rfl

/-! ### what is encoded -/
theorem byte_back (c : UInt8) : UInt8.ofNat (16 * v (dig (c.toNat / 16)).toNat + v (dig (c.toNat % 16)).toNat).toNat = c := by
  have h := c.toNat_lt
  rw [v_dig (by omega), v_dig (by omega)]
  have : (16 * ((c.toNat / 16 : Nat) : Int) + ((c.toNat % 16 : Nat) : Int)).toNat = c.toNat := by omega
  rw [this]; simp
theorem enc_laws (has : Nat → Bool) (l : B) : valid (enc has l) = true ∧ dec (enc has l) = l ∧ upper (enc has l) = enc has l ∧ l.length ≤ (enc has l).length ∧ ∀ c ∈ enc has l, has c.toNat = true ∨ c = 37 ∨ ok c.toNat = true := by
  induction l with
  | nil => refine ⟨rfl, by simp [enc, dec], by simp [enc, upper], by simp, by simp [enc]⟩
  | cons c t ih =>
    obtain ⟨h1, h2, h3, h4, h5⟩ := ih
    have hc := c.toNat_lt
    rw [enc_cons, enc1]
    by_cases hk : (c != 37 && has c.toNat) = true
    · rw [if_pos hk]
      simp at hk
      refine ⟨?_, ?_, ?_, ?_, ?_⟩
      · show valid (c :: enc has t) = true
        rw [valid_ne _ hk.1, h1]
      · show dec (c :: enc has t) = _
        rw [dec_ne _ hk.1, h2]
      · show upper (c :: enc has t) = c :: enc has t
        rw [upper_ne _ hk.1, h3]
      · simp; omega
      · intro d hd
        simp at hd
        rcases hd with rfl | hd
        · exact Or.inl hk.2
        · exact h5 d hd
    · rw [if_neg hk]
      have o1 := ok_dig (n := c.toNat / 16) (by omega)
      have o2 := ok_dig (n := c.toNat % 16) (by omega)
      refine ⟨?_, ?_, ?_, ?_, ?_⟩
      · show valid (37 :: _ :: _ :: enc has t) = true
        rw [valid_yes _ o1 o2, h1]
      · show dec (37 :: _ :: _ :: enc has t) = _
        rw [dec_yes _ o1 o2, h2, byte_back]
      · show upper (37 :: _ :: _ :: enc has t) = 37 :: _ :: _ :: enc has t
        rw [upper_yes _ o1 o2, h3, up_dig (by omega), up_dig (by omega)]
      · simp; omega
      · intro d hd
        simp at hd
        rcases hd with rfl | rfl | rfl | hd
        · exact Or.inr (Or.inl rfl)
        · exact Or.inr (Or.inr o1)
        · exact Or.inr (Or.inr o2)
        · exact h5 d hd
theorem enc_append (has : Nat → Bool) (s t : B) : enc has (s ++ t) = enc has s ++ enc has t := by simp [enc]

/-! ### texts side by side -/
theorem esc_append {c : UInt8} {t : B} (r : B) (h : valid (c :: t) = true) : escOk (c :: t ++ r) = escOk (c :: t) := by
  by_cases hc : c = 37
  · subst hc
    have : escOk (37 :: t) = true := by
      simp [valid] at h; exact h.1
    obtain ⟨a, b, t', rfl, ha, hb, _⟩ := escOk_shape this
    rw [this]; exact esc_yes _ ha hb
  · rw [esc_ne t hc]; exact esc_ne _ hc
theorem dec_len (n : Nat) : ∀ s : B, s.length = n → (dec s).length ≤ s.length := by
  induction n using Nat.strongRecOn with
  | _ n ih =>
    intro s hn
    rcases s with _ | ⟨c, s⟩
    · simp [dec]
    · simp at hn
      rw [dec]
      split
      · have := ih (s.drop 2).length (by rw [List.length_drop]; omega) (s.drop 2) rfl
        rw [List.length_drop] at this
        simp; omega
      · have := ih s.length (by omega) s rfl
        simp; omega
theorem joins : ∀ (s t : B), valid s = true → valid t = true → valid (s ++ t) = true ∧ dec (s ++ t) = dec s ++ dec t := by
  intro s
  induction hn : s.length using Nat.strongRecOn generalizing s with
  | _ n ih =>
    intro t hs ht
    rcases s with _ | ⟨c, s⟩
    · exact ⟨ht, by simp [dec]⟩
    · simp at hn
      by_cases hc : c = 37
      · subst hc
        have : escOk (37 :: s) = true := by simp [valid] at hs; exact hs.1
        obtain ⟨a, b, t', rfl, ha, hb, _⟩ := escOk_shape this
        rw [valid_yes _ ha hb] at hs
        simp at hn
        obtain ⟨h1, h2⟩ := ih t'.length (by omega) t' rfl t hs ht
        refine ⟨?_, ?_⟩
        · show valid (37 :: a :: b :: (t' ++ t)) = true
          rw [valid_yes _ ha hb, h1]
        · show dec (37 :: a :: b :: (t' ++ t)) = dec (37 :: a :: b :: t') ++ _
          rw [dec_yes _ ha hb, dec_yes _ ha hb, h2]; rfl
      · rw [valid_ne _ hc] at hs
        obtain ⟨h1, h2⟩ := ih s.length (by omega) s rfl t hs ht
        refine ⟨?_, ?_⟩
        · show valid (c :: (s ++ t)) = true
          rw [valid_ne _ hc, h1]
        · show dec (c :: (s ++ t)) = dec (c :: s) ++ _
          rw [dec_ne _ hc, dec_ne _ hc, h2]; rfl

/-! ### the one form -/
def near (u c : UInt8) : Prop := u = c ∨ (65 ≤ u.toNat ∧ u.toNat ≤ 70 ∧ c = u + 32)
theorem up_all : ∀ n : Fin 256, ok n.val = true → ok (up1 (UInt8.ofNat n.val)).toNat = true ∧ v (up1 (UInt8.ofNat n.val)).toNat = v n.val ∧ up1 (up1 (UInt8.ofNat n.val)) = up1 (UInt8.ofNat n.val) ∧ (up1 (UInt8.ofNat n.val) = UInt8.ofNat n.val ∨ (65 ≤ (up1 (UInt8.ofNat n.val)).toNat ∧ (up1 (UInt8.ofNat n.val)).toNat ≤ 70 ∧ UInt8.ofNat n.val = up1 (UInt8.ofNat n.val) + 32)) := by decide +kernel
theorem up_laws {a : UInt8} (h : ok a.toNat = true) : ok (up1 a).toNat = true ∧ v (up1 a).toNat = v a.toNat ∧ up1 (up1 a) = up1 a ∧ near (up1 a) a := by
  have := up_all ⟨a.toNat, a.toNat_lt⟩
  simp only [UInt8.ofNat_toNat] at this
  exact this h
theorem esc_upper_no {t : B} (h : escOk (37 :: t) = false) : escOk (37 :: upper t) = false := by
  rcases t with _ | ⟨a, t⟩
  · simpa [upper] using h
  · by_cases ha : a = 37
    · subst ha
      have : ∃ r, upper (37 :: t) = 37 :: r := by rw [upper]; split <;> exact ⟨_, rfl⟩
      obtain ⟨r, hr⟩ := this
      rw [hr]
      rcases r with _ | ⟨b, r⟩
      · rfl
      · simp [escOk]; intro h; exact absurd h (by decide)
    · rw [upper_ne _ ha]
      rcases t with _ | ⟨b, t⟩
      · simp [upper, escOk]
      · have : ∃ r, upper (b :: t) = b :: r := by rw [upper]; split <;> exact ⟨_, rfl⟩
        obtain ⟨r, hr⟩ := this
        rw [hr]
        simpa [escOk] using h
theorem upper_laws_n (n : Nat) : ∀ (s : B), s.length = n → (upper s).length = s.length ∧ upper (upper s) = upper s ∧ valid (upper s) = valid s ∧ dec (upper s) = dec s ∧ ∀ i (h : i < s.length) (h' : i < (upper s).length), near (upper s)[i] s[i] := by
  induction n using Nat.strongRecOn with
  | _ n ih =>
    intro s hn
    rcases s with _ | ⟨c, s⟩
    · simp [upper]
    · simp at hn
      by_cases hc : c = 37
      · subst hc
        cases he : escOk (37 :: s)
        · obtain ⟨h1, h2, h3, h4, h5⟩ := ih s.length (by omega) s rfl
          have hu : upper (37 :: s) = 37 :: upper s := by rw [upper, he]; rfl
          have he' := esc_upper_no he
          rw [hu]
          refine ⟨by simp [h1, hn], ?_, ?_, ?_, ?_⟩
          · rw [upper, he', if_neg (by simp), h2]
          · rw [valid, valid, he, he', h3]
          · rw [dec, dec, he, he']; simp [h4]
          · intro i h h'
            rcases i with _ | i
            · exact Or.inl rfl
            · exact h5 i (by simp at h; omega) (by simp at h'; omega)
        · obtain ⟨a, b, t', rfl, ha, hb, _⟩ := escOk_shape he
          simp at hn
          obtain ⟨h1, h2, h3, h4, h5⟩ := ih t'.length (by omega) t' rfl
          obtain ⟨a1, a2, a3, a4⟩ := up_laws ha
          obtain ⟨b1, b2, b3, b4⟩ := up_laws hb
          rw [upper_yes _ ha hb]
          refine ⟨by simp [h1]; try omega, ?_, ?_, ?_, ?_⟩
          · rw [upper_yes _ a1 b1, h2, a3, b3]
          · rw [valid_yes _ a1 b1, valid_yes _ ha hb, h3]
          · rw [dec_yes _ a1 b1, dec_yes _ ha hb, a2, b2, h4]
          · intro i h h'
            rcases i with _ | _ | _ | i
            · exact Or.inl rfl
            · exact a4
            · exact b4
            · exact h5 i (by simp at h; omega) (by simp at h'; omega)
      · obtain ⟨h1, h2, h3, h4, h5⟩ := ih s.length (by omega) s rfl
        rw [upper_ne _ hc]
        refine ⟨by simp [h1, hn], ?_, ?_, ?_, ?_⟩
        · rw [upper_ne _ hc, h2]
        · rw [valid_ne _ hc, valid_ne _ hc, h3]
        · rw [dec_ne _ hc, dec_ne _ hc, h4]
        · intro i h h'
          rcases i with _ | i
          · exact Or.inl rfl
          · exact h5 i (by simp at h; omega) (by simp at h'; omega)
theorem upper_laws (s : B) : (upper s).length = s.length ∧ upper (upper s) = upper s ∧ valid (upper s) = valid s ∧ dec (upper s) = dec s ∧ ∀ i (h : i < s.length) (h' : i < (upper s).length), near (upper s)[i] s[i] := upper_laws_n s.length s rfl
end Pc
end Go.Proofs.Ytpccfagbmbbpkaa
