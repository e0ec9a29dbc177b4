/-
  Formatting (internal/strconv's shortFloat): the decimal number that is found lies between the midpoints around the float64. No program in sight.
-/
import Derived.Test.YtedllapajgcfeaaGreatDoorPrs
namespace Go.Proofs.YtedllapajgcfeaaGreatDoor
set_option linter.unusedVariables false
set_option linter.unusedSimpArgs false
namespace Sc
set_option exponentiation.threshold 5000
set_option maxRecDepth 20000

def l10 (E : Int) : Int := E * 78913 / 262144
def sk (E : Int) : Int := (E * 631305 - 261663) / 2097152
abbrev Skew (m : Nat) (E : Int) : Prop := m = 4503599627370496 ∧ -1074 < E
def fP (m : Nat) (E : Int) : Int := if Skew m E then sk E else l10 E
def fu (x : Nat) (e P : Int) : Nat := us x (row (-P)).1 (row (-P)).2 (-(e + lp (-P) + 3)).toNat
def fmin (m z : Nat) (E : Int) : Nat := if Skew m E then (4 * m - 1) * 2 ^ (z - 2) else (2 * m - 1) * 2 ^ (z - 1)
def fmax (m z : Nat) : Nat := (2 * m + 1) * 2 ^ (z - 1)
def dlo (m z : Nat) (E : Int) : Nat := (fu (fmin m z E) (E - z) (fP m E) + m % 2 + 3) / 4
def dhi (m z : Nat) (E : Int) : Nat := (fu (fmax m z) (E - z) (fP m E) - m % 2) / 4
def short (m z : Nat) (E : Int) : Nat × Int :=
  if dlo m z E ≤ dhi m z E / 10 * 10 then (dhi m z E / 10, fP m E + 1)
  else if dlo m z E < dhi m z E then (rnd (fu (m * 2 ^ z) (E - z) (fP m E)), fP m E)
  else (dlo m z E, fP m E)

/-! ### what the kernel looks through -/
def ck1 (E : Int) : Bool := decide (-324 ≤ l10 E) && decide (l10 E ≤ 308) && decide (0 ≤ lp (-l10 E) + E) && decide (lp (-l10 E) + E ≤ 3) && decide (N 1 E < wv 10 (l10 E)) && (decide (E = 0) || decide (18446744073709551617 * wv 1 (l10 E) < 18446744073709551616 * N 1 E))
def ck2 (E : Int) : Bool := decide (E = -1074) || (decide (-324 ≤ sk E) && decide (sk E ≤ 308) && decide (0 ≤ lp (-sk E) + E) && decide (lp (-sk E) + E ≤ 3) &&
  decide (In 4503599627370496 E (short 4503599627370496 11 E).1 (short 4503599627370496 11 E).2) && decide (0 < (short 4503599627370496 11 E).1) && decide ((short 4503599627370496 11 E).1 < 100000000000000000))
def allE (f : Int → Bool) : Nat → Bool
  | 0 => true
  | n + 1 => f ((n : Int) - 1074) && allE f n
theorem allE_at {f : Int → Bool} : ∀ {n : Nat}, allE f n = true → ∀ E : Int, -1074 ≤ E → E < (n : Int) - 1074 → f E = true
  | 0, _, E, h1, h2 => by omega
  | n + 1, h, E, h1, h2 => by
    unfold allE at h
    rw [Bool.and_eq_true] at h
    by_cases c : E = (n : Int) - 1074
    · rw [c]; exact h.1
    · exact allE_at h.2 E h1 (by omega)
theorem ck1_all : allE ck1 2046 = true := by decide +kernel
theorem ck2_all : allE ck2 2046 = true := by decide +kernel
structure EF (E P : Int) : Prop where
  lo : -324 ≤ P
  hi : P ≤ 308
  s0 : 0 ≤ lp (-P) + E
  s3 : lp (-P) + E ≤ 3
theorem l10_f (E : Int) (h1 : -1074 ≤ E) (h2 : E ≤ 971) : EF E (l10 E) ∧ N 1 E < wv 10 (l10 E) ∧ (E = 0 ∨ 18446744073709551617 * wv 1 (l10 E) < 18446744073709551616 * N 1 E) := by
  have := allE_at ck1_all E h1 (by omega)
  unfold ck1 at this
  simp only [Bool.and_eq_true, Bool.or_eq_true, decide_eq_true_eq] at this
  exact ⟨⟨this.1.1.1.1.1, this.1.1.1.1.2, this.1.1.1.2, this.1.1.2⟩, this.1.2, this.2⟩
theorem sk_f (E : Int) (h1 : -1074 < E) (h2 : E ≤ 971) : EF E (sk E) ∧ In 4503599627370496 E (short 4503599627370496 11 E).1 (short 4503599627370496 11 E).2 ∧ 0 < (short 4503599627370496 11 E).1 ∧ (short 4503599627370496 11 E).1 < 100000000000000000 := by
  have := allE_at ck2_all E (by omega) (by omega)
  unfold ck2 at this
  simp only [Bool.and_eq_true, Bool.or_eq_true, decide_eq_true_eq] at this
  rcases this with h | h
  · omega
  · exact ⟨⟨h.1.1.1.1.1.1, h.1.1.1.1.1.2, h.1.1.1.1.2, h.1.1.1.2⟩, h.1.1.2, h.1.2, h.2⟩
theorem fP_f {m : Nat} {E : Int} (F : Fin m E) : EF E (fP m E) := by
  unfold fP
  split
  · rename_i h; exact (sk_f E h.2 F.hi).1
  · exact (l10_f E F.lo F.hi).1
/-- How far the mantissa is moved to the left. -/
structure Zs (m z : Nat) : Prop where
  lo : 9223372036854775808 ≤ m * 2 ^ z
  hi : m * 2 ^ z < 18446744073709551616
theorem zs_f {m z : Nat} {E : Int} (F : Fin m E) (Z : Zs m z) : 11 ≤ z ∧ z ≤ 63 ∧ (4503599627370496 ≤ m → z = 11) := by
  have := F.pos
  have := F.lt
  have h1 := Z.lo
  have h2 := Z.hi
  refine ⟨?_, ?_, ?_⟩
  · rcases Nat.lt_or_ge z 11 with g | g
    · have : m * 2 ^ z ≤ 9007199254740991 * 2 ^ 10 := Nat.mul_le_mul (by omega) (Nat.pow_le_pow_right (by omega) (by omega))
      omega
    · exact g
  · rcases Nat.lt_or_ge z 64 with g | g
    · omega
    · have : 1 * 2 ^ 64 ≤ m * 2 ^ z := Nat.mul_le_mul (by omega) (Nat.pow_le_pow_right (by omega) (by omega))
      omega
  · intro hm
    rcases Nat.lt_or_ge z 12 with g | g
    · rcases Nat.lt_or_ge z 11 with g | g
      · have : m * 2 ^ z ≤ 9007199254740991 * 2 ^ 10 := Nat.mul_le_mul (by omega) (Nat.pow_le_pow_right (by omega) (by omega))
        omega
      · omega
    · have : 4503599627370496 * 2 ^ 12 ≤ m * 2 ^ z := Nat.mul_le_mul (by omega) (Nat.pow_le_pow_right (by omega) (by omega))
      omega

theorem Tri.unscale {u k V X c : Nat} (hc : 0 < c) (h : Tri u k (V * c) (X * c)) : Tri u k V X := by
  rcases h with ⟨a, b⟩ | ⟨a, b⟩ | ⟨a, b⟩
  · exact Or.inl ⟨a, Nat.lt_of_mul_lt_mul_right b⟩
  · exact Or.inr (Or.inl ⟨a, Nat.eq_of_mul_eq_mul_right hc b⟩)
  · exact Or.inr (Or.inr ⟨a, Nat.lt_of_mul_lt_mul_right b⟩)
theorem sep_up {L R : Nat} (c : Nat) (h : Sep L R) : Sep (L * c) (R * c) := by
  unfold Sep at *
  generalize M = m at *
  rcases h with h | h | h
  · exact Or.inl (by rw [h])
  · refine Or.inr (Or.inl ?_)
    have := Nat.mul_le_mul_right c h
    grind
  · refine Or.inr (Or.inr ?_)
    have := Nat.mul_le_mul_right c h
    grind
theorem ten_mul (P : Int) (h1 : -400 ≤ P) (h2 : P ≤ 400) : ten (-P) * ten P = ten 0 * ten 0 := by
  unfold ten
  rw [← Nat.pow_add, ← Nat.pow_add]
  congr 1
  omega
theorem ten_up (P : Int) (h1 : -400 ≤ P) : ten (P + 1) = 10 * ten P := by
  unfold ten
  rw [show (P + 1 + 400).toNat = (P + 400).toNat + 1 from by omega, Nat.pow_succ, Nat.mul_comm]
theorem wv_up (d : Nat) (P : Int) (h1 : -400 ≤ P) : wv d (P + 1) = wv (10 * d) P := by
  unfold wv
  rw [ten_up P h1]
  grind

/-! ### the units of a scaling -/
def fW (e P : Int) : Nat := 2 ^ (-(e + lp (-P) + 3)).toNat * (340282366920938463463374607431768211456 * nG (-P))
def fc (e P : Int) : Nat := ten P * 2 ^ (e + 1400).toNat
def f0 : Nat := ten 0 * 2 ^ 1327
theorem fc_pos (e P : Int) : 0 < fc e P := Nat.mul_pos (ten_pos _) (pow_pos _)
theorem f0_pos : 0 < f0 := Nat.mul_pos (ten_pos _) (pow_pos _)
theorem f_bin (mm k : Nat) (e P : Int) (h1 : -400 ≤ P) (h2 : P ≤ 400) (he : -1400 ≤ e) : mm * 2 ^ k * nT (-P) * fc e P = N mm (k + e) * f0 := by
  unfold nT fc N f0
  have := ten_mul P h1 h2
  rw [show ((k : Int) + e + 1400).toNat = k + (e + 1400).toNat from by omega, Nat.pow_add]
  calc mm * 2 ^ k * (ten (-P) * 2 ^ 1327) * (ten P * 2 ^ (e + 1400).toNat) = mm * 2 ^ k * 2 ^ 1327 * 2 ^ (e + 1400).toNat * (ten (-P) * ten P) := by grind
    _ = mm * 2 ^ k * 2 ^ 1327 * 2 ^ (e + 1400).toNat * (ten 0 * ten 0) := by rw [this]
    _ = _ := by grind
theorem f_dec0 (d : Nat) (e P : Int) (hl : -1200 ≤ lp (-P)) (hs : 0 ≤ -(e + lp (-P) + 3)) (he2 : e ≤ 1327) : 4 * d * fW e P = d * ten 0 * 2 ^ (1327 - e).toNat := by
  unfold fW nG
  rw [show (340282366920938463463374607431768211456 : Nat) = 2 ^ 128 from rfl, show (4 : Nat) = 2 ^ 2 from rfl]
  rw [show (1327 - e).toNat = 2 + (-(e + lp (-P) + 3)).toNat + 128 + (lp (-P) + 1200).toNat from by omega, Nat.pow_add, Nat.pow_add, Nat.pow_add]
  grind
theorem f_dec (d : Nat) (e P : Int) (hl : -1200 ≤ lp (-P)) (hs : 0 ≤ -(e + lp (-P) + 3)) (he : -1400 ≤ e) (he2 : e ≤ 1327) : 4 * d * fW e P * fc e P = wv d P * f0 := by
  rw [f_dec0 d e P hl hs he2]
  unfold fc wv f0
  have : 2 ^ (1327 - e).toNat * 2 ^ (e + 1400).toNat = 2 ^ 1400 * 2 ^ 1327 := by
    rw [← Nat.pow_add, ← Nat.pow_add]
    congr 1
    omega
  calc d * ten 0 * 2 ^ (1327 - e).toNat * (ten P * 2 ^ (e + 1400).toNat) = d * ten 0 * ten P * (2 ^ (1327 - e).toNat * 2 ^ (e + 1400).toNat) := by grind
    _ = d * ten 0 * ten P * (2 ^ 1400 * 2 ^ 1327) := by rw [this]
    _ = _ := by grind
structure Fs (x : Nat) (e P : Int) : Prop where
  x0 : 4611686018427387904 ≤ x
  x1 : x < 18446744073709551616
  p0 : -324 ≤ P
  p1 : P ≤ 308
  s0 : 5 ≤ -(e + lp (-P) + 3)
  e0 : -1400 ≤ e
  e1 : e ≤ 1327
theorem f_says {x : Nat} {e P : Int} (H : Fs x e P) : Says (fu x e P) (x * nT (-P)) (fW e P) (nG (-P)) := by
  have R := row_f (-P) (by have := H.p1; omega) (by have := H.p0; omega)
  exact us_says x _ _ _ _ _ (by have := H.x0; omega) H.x1 R.h1 R.h2 R.h3 R.h4 R.h5 R.h8
theorem fW_gt (e P : Int) (hG : 0 < nG (-P)) : 36893488147419103232 * nG (-P) < fW e P ∧ 18446744073709551616 * (36893488147419103232 * nG (-P)) ≤ 2 * fW e P := by
  have h3 : 1 * (340282366920938463463374607431768211456 * nG (-P)) ≤ fW e P := Nat.mul_le_mul_right _ (pow_pos _)
  omega
theorem f_cmp {mm k : Nat} {e P : Int} (H : Fs (mm * 2 ^ k) e P) (hm : mm < 2 ^ 54) (d : Nat) (hd : d < 2 ^ 57) : Tri (fu (mm * 2 ^ k) e P) (4 * d) (N mm (k + e)) (wv d P) := by
  have R := row_f (-P) (by have := H.p1; omega) (by have := H.p0; omega)
  have hl : -1200 ≤ lp (-P) := by have := H.p1; unfold lp; omega
  have hs := H.s0
  have he := H.e0
  have he1 := H.e1
  have hp0 := H.p0
  have hp1 := H.p1
  have hW := fW_gt e P R.h8
  have key : Tri (fu (mm * 2 ^ k) e P) (2 * (2 * d)) (mm * 2 ^ k * nT (-P)) (2 * (2 * d) * fW e P) := by
    refine says_cmp (f_says H) hW.1 (2 * d) (fun a1 a2 => ?_)
    have e4 : 2 * (2 * d) * fW e P = 4 * d * fW e P := by rw [show 2 * (2 * d) = 4 * d from by omega]
    rw [e4] at a1 a2 ⊢
    have S := sep_up (ten 0) (sep P (by omega) (by omega) d mm (1327 - e).toNat (k + 1327) hd hm)
    have S2 : Sep (4 * d * fW e P * ten P) (mm * 2 ^ k * nT (-P) * ten P) := by
      rw [f_dec0 d e P hl (by omega) he1]
      have e1 : d * ten 0 * 2 ^ (1327 - e).toNat * ten P = d * ten P * 2 ^ (1327 - e).toNat * ten 0 := by grind
      have e2 : mm * 2 ^ k * nT (-P) * ten P = mm * ten 0 * 2 ^ (k + 1327) * ten 0 := by
        unfold nT
        have := ten_mul P (by omega) (by omega)
        rw [Nat.pow_add]
        calc mm * 2 ^ k * (ten (-P) * 2 ^ 1327) * ten P = mm * 2 ^ k * 2 ^ 1327 * (ten (-P) * ten P) := by grind
          _ = mm * 2 ^ k * 2 ^ 1327 * (ten 0 * ten 0) := by rw [this]
          _ = _ := by grind
      rw [e1, e2]
      exact S
    have S3 := sep_scale (ten_pos P) S2
    refine (sep_near S3 (G := nG (-P)) ?_ a2 a1).symm
    have h3 : 4611686018427387904 * (nG (-P) * 2 ^ 127) ≤ mm * 2 ^ k * nT (-P) := Nat.mul_le_mul H.x0 R.h6
    omega
  rw [show 2 * (2 * d) = 4 * d from by omega] at key
  have k2 := key.scale (fc e P) (fc_pos e P)
  rw [f_bin mm k e P (by omega) (by omega) he, f_dec d e P hl (by omega) he he1] at k2
  exact k2.unscale f0_pos

theorem us_lt {x hi lo s : Nat} (hx : x < 2 ^ 64) (hh : hi < 2 ^ 64) (hs : 5 ≤ s) : us x hi lo s < 2 ^ 60 := by
  have h1 : x * hi < 2 ^ 64 * 18446744073709551616 := Nat.mul_lt_mul'' hx hh
  have h2 : x * hi / 18446744073709551616 < 2 ^ 64 := Nat.div_lt_of_lt_mul (by omega)
  have h5 : (2 : Nat) ^ 5 ≤ 2 ^ s := Nat.pow_le_pow_right (by omega) hs
  have q : ∀ h, h < 2 ^ 64 → h / 2 ^ s < 2 ^ 59 := by
    intro h hh
    refine Nat.div_lt_of_lt_mul ?_
    calc h < 2 ^ 64 := hh
      _ = 2 ^ 5 * 2 ^ 59 := by decide
      _ ≤ _ := Nat.mul_le_mul_right _ h5
  unfold us od
  dsimp only
  generalize x * hi / 18446744073709551616 = h at *
  have q1 := q h h2
  have q2 := q (h - 1) (by omega)
  split
  · omega
  · split
    · omega
    · split <;> omega

/-! ### what is chosen -/
theorem fs_of {m z : Nat} {E : Int} (F : Fin m E) (Z : Zs m z) : Fs (fmin m z E) (E - z) (fP m E) ∧ Fs (fmax m z) (E - z) (fP m E) ∧ Fs (m * 2 ^ z) (E - z) (fP m E) := by
  have G := fP_f F
  obtain ⟨z1, z2, z3⟩ := zs_f F Z
  have a1 := Z.lo
  have a2 := Z.hi
  have b1 := F.pos
  have b2 := F.lt
  have b3 := F.lo
  have b4 := F.hi
  have c1 := G.lo
  have c2 := G.hi
  have c3 := G.s0
  have c4 := G.s3
  have hz : 2 ^ z = 2 * 2 ^ (z - 1) := by rw [show z = z - 1 + 1 from by omega, Nat.pow_succ, Nat.mul_comm]; rfl
  have hz2 : 2 ^ (z - 1) = 2 * 2 ^ (z - 2) := by rw [show z - 1 = z - 2 + 1 from by omega, Nat.pow_succ, Nat.mul_comm]
  have hb : ∀ x, 4611686018427387904 ≤ x → x < 18446744073709551616 → Fs x (E - z) (fP m E) := fun x h1 h2 => ⟨h1, h2, c1, c2, by omega, by omega, by omega⟩
  have e1 : m * 2 ^ z = 2 * (m * 2 ^ (z - 1)) := by rw [hz]; grind
  have e2 : m * 2 ^ z = 4 * (m * 2 ^ (z - 2)) := by rw [hz, hz2]; grind
  have l1 : 1 * 2 ^ (z - 1) ≤ m * 2 ^ (z - 1) := Nat.mul_le_mul_right _ b1
  have l2 : 1 * 2 ^ (z - 2) ≤ m * 2 ^ (z - 2) := Nat.mul_le_mul_right _ b1
  refine ⟨?_, ?_, hb _ (by omega) (by omega)⟩
  · unfold fmin
    split
    · have : (4 * m - 1) * 2 ^ (z - 2) = 4 * (m * 2 ^ (z - 2)) - 1 * 2 ^ (z - 2) := by rw [Nat.sub_mul]; grind
      exact hb _ (by omega) (by omega)
    · have : (2 * m - 1) * 2 ^ (z - 1) = 2 * (m * 2 ^ (z - 1)) - 1 * 2 ^ (z - 1) := by rw [Nat.sub_mul]; grind
      exact hb _ (by omega) (by omega)
  · have : fmax m z = 2 * (m * 2 ^ (z - 1)) + 1 * 2 ^ (z - 1) := by unfold fmax; rw [Nat.add_mul]; grind
    refine hb _ (by omega) ?_
    -- below 2^64
    have hdv : (m + 1) * 2 ^ z ≤ 18446744073709551616 := by
      have : m * 2 ^ z < 2 ^ (64 - z) * 2 ^ z := by rw [← Nat.pow_add, show 64 - z + z = 64 from by omega]; exact a2
      have := Nat.lt_of_mul_lt_mul_right this
      have h4 : (m + 1) * 2 ^ z ≤ 2 ^ (64 - z) * 2 ^ z := Nat.mul_le_mul_right _ this
      rw [← Nat.pow_add, show 64 - z + z = 64 from by omega] at h4
      exact h4
    rw [Nat.add_mul] at hdv
    have := pow_pos (z - 1)
    omega
theorem cmp_lo {m z : Nat} {E : Int} (F : Fin m E) (Z : Zs m z) (d : Nat) (hd : d < 2 ^ 57) :
    Tri (fu (fmin m z E) (E - z) (fP m E)) (4 * d) (if Skew m E then N (4 * m - 1) (E - 2) else N (2 * m - 1) (E - 1)) (wv d (fP m E)) := by
  obtain ⟨h, _, _⟩ := fs_of F Z
  obtain ⟨z1, z2, z3⟩ := zs_f F Z
  have b2 := F.lt
  unfold fmin at *
  split
  · rename_i c
    rw [if_pos c] at h
    have := f_cmp h (by rw [c.1]; decide) d hd
    rw [show (((z - 2 : Nat) : Int) + (E - z)) = E - 2 from by omega] at this
    exact this
  · rename_i c
    rw [if_neg c] at h
    have := f_cmp h (by omega) d hd
    rw [show (((z - 1 : Nat) : Int) + (E - z)) = E - 1 from by omega] at this
    exact this
theorem cmp_hi {m z : Nat} {E : Int} (F : Fin m E) (Z : Zs m z) (d : Nat) (hd : d < 2 ^ 57) :
    Tri (fu (fmax m z) (E - z) (fP m E)) (4 * d) (N (2 * m + 1) (E - 1)) (wv d (fP m E)) := by
  obtain ⟨_, h, _⟩ := fs_of F Z
  obtain ⟨z1, z2, z3⟩ := zs_f F Z
  have b2 := F.lt
  unfold fmax at *
  have := f_cmp h (by omega) d hd
  rw [show (((z - 1 : Nat) : Int) + (E - z)) = E - 1 from by omega] at this
  exact this
/-- What lies between the two is what is read as the number. -/
theorem between {m z : Nat} {E : Int} (F : Fin m E) (Z : Zs m z) (d : Nat) (hd : d < 2 ^ 57) : (dlo m z E ≤ d ∧ d ≤ dhi m z E) ↔ In m E d (fP m E) := by
  have t1 := cmp_lo F Z d hd
  have t2 := cmp_hi F Z d hd
  have t0 := cmp_hi F Z 0 (by decide)
  have g0 : 0 < fu (fmax m z) (E - z) (fP m E) := by
    unfold Tri at t0
    have : wv 0 (fP m E) = 0 := by unfold wv; rw [Nat.zero_mul, Nat.zero_mul]
    have : 0 < N (2 * m + 1) (E - 1) := Nat.mul_pos (Nat.mul_pos (by omega) (ten_pos _)) (pow_pos _)
    omega
  unfold dlo dhi In Tri at *
  generalize fu (fmin m z E) (E - z) (fP m E) = u1 at *
  generalize fu (fmax m z) (E - z) (fP m E) = u2 at *
  have hsk : Skew m E → m % 2 = 0 := fun h => by rw [h.1]
  by_cases c : Skew m E
  · have := hsk c
    rw [if_pos c] at t1
    rw [if_pos c, if_pos this, this]
    omega
  · rw [if_neg c] at t1
    rw [if_neg c]
    rcases Nat.mod_two_eq_zero_or_one m with g | g
    · rw [if_pos g, if_pos g, g]; omega
    · rw [if_neg (by omega), if_neg (by omega), g]; omega

theorem N_pos {h : Nat} (j : Int) (hh : 0 < h) : 0 < N h j := Nat.mul_pos (Nat.mul_pos hh (ten_pos _)) (pow_pos _)
theorem dlo_pos {m z : Nat} {E : Int} (F : Fin m E) (Z : Zs m z) : 0 < dlo m z E := by
  have t0 := cmp_lo F Z 0 (by decide)
  have hp := F.pos
  unfold Tri at t0
  have h1 : wv 0 (fP m E) = 0 := by unfold wv; rw [Nat.zero_mul, Nat.zero_mul]
  have h2 : 0 < (if Skew m E then N (4 * m - 1) (E - 2) else N (2 * m - 1) (E - 1)) := by
    split
    · exact N_pos _ (by omega)
    · exact N_pos _ (by omega)
  unfold dlo
  omega
theorem wv_mul (k d : Nat) (P : Int) : wv (k * d) P = k * wv d P := by unfold wv; grind
theorem N_mul (k h : Nat) (j : Int) : N (k * h) j = k * N h j := by unfold N; grind
theorem dhi_lt {m z : Nat} {E : Int} (F : Fin m E) (Z : Zs m z) (ns : ¬ Skew m E) : dhi m z E < 100000000000000000 := by
  have t := cmp_hi F Z 100000000000000000 (by decide)
  have L := (l10_f E F.lo F.hi).2.1
  have hlo := F.lo
  have hlt := F.lt
  have e : fP m E = l10 E := if_neg ns
  rw [e] at t
  have h1 : N (2 * m + 1) (E - 1) < wv 100000000000000000 (l10 E) := by
    have h2 : N (2 * m + 1) (E - 1) ≤ N (2 * 9007199254740992) (E - 1) := N_mono _ (by omega)
    have h3 := N2 9007199254740992 (E - 1) (by omega)
    rw [show E - 1 + 1 = E from by omega] at h3
    have h4 : N 9007199254740992 E = 9007199254740992 * N 1 E := by rw [← N_mul]
    have h5 : wv 100000000000000000 (l10 E) = 10000000000000000 * wv 10 (l10 E) := by rw [← wv_mul]
    omega
  unfold Tri at t
  unfold dhi
  rw [e]
  omega

theorem round_in {m z : Nat} {E : Int} (F : Fin m E) (Z : Zs m z) (ns : ¬ Skew m E) : In m E (rnd (fu (m * 2 ^ z) (E - z) (fP m E))) (fP m E) := by
  obtain ⟨_, _, H⟩ := fs_of F Z
  obtain ⟨z1, z2, z3⟩ := zs_f F Z
  have L := (l10_f E F.lo F.hi).2.2
  have hlo := F.lo
  have hlt := F.lt
  have hps := F.pos
  have e : fP m E = l10 E := if_neg ns
  have S := f_says H
  have R := row_f (-(fP m E)) (by have := H.p1; omega) (by have := H.p0; omega)
  have W := fW_gt (E - z) (fP m E) R.h8
  have hl : -1200 ≤ lp (-(fP m E)) := by have := H.p1; unfold lp; omega
  have hs := H.s0
  have he := H.e0
  have he1 := H.e1
  have hp0 := H.p0
  have hp1 := H.p1
  have hG := R.h8
  have key : N (2 * m - 1) (E - 1) < wv (rnd (fu (m * 2 ^ z) (E - z) (fP m E))) (fP m E) ∧ wv (rnd (fu (m * 2 ^ z) (E - z) (fP m E))) (fP m E) < N (2 * m + 1) (E - 1) := by
    rcases L with L | L
    · -- it is a whole number
      have hP : fP m E = 0 := by rw [e, L]; decide
      have C := f_cmp H (by omega) m (by omega)
      have e1 : N m ((z : Int) + (E - z)) = wv m (fP m E) := by
        rw [hP, show (z : Int) + (E - z) = 0 from by omega]
        rfl
      have hu : fu (m * 2 ^ z) (E - z) (fP m E) = 4 * m := by
        unfold Tri at C
        omega
      rw [hu]
      have hr : rnd (4 * m) = m := by
        unfold rnd
        omega
      rw [hr, ← e1, show (z : Int) + (E - z) = E - 1 + 1 from by omega, N2 _ _ (by omega)]
      exact ⟨N_lt _ (by omega), N_lt _ (by omega)⟩
    · generalize hu : fu (m * 2 ^ z) (E - z) (fP m E) = u at *
      have hr : 4 * rnd u ≤ u + 2 ∧ u ≤ 4 * rnd u + 2 := by
        unfold rnd
        rcases Nat.mod_two_eq_zero_or_one (u / 4) with g | g <;> rw [g] <;> omega
      generalize rnd u = r at *
      have near : m * 2 ^ z * nT (-(fP m E)) ≤ (4 * r + 2) * fW (E - z) (fP m E) + 36893488147419103232 * nG (-(fP m E)) ∧ 4 * r * fW (E - z) (fP m E) ≤ m * 2 ^ z * nT (-(fP m E)) + 2 * fW (E - z) (fP m E) + 36893488147419103232 * nG (-(fP m E)) := by
        generalize m * 2 ^ z * nT (-(fP m E)) = V at *
        generalize fW (E - z) (fP m E) = w at *
        obtain ⟨K, ⟨h0, h1, h2⟩ | ⟨h0, h1, h2⟩⟩ := S
        · have h3 : 4 * r ≤ K + 2 ∧ K + 1 ≤ 4 * r + 2 := by unfold od at h0; omega
          have h4 : (K + 1) * w ≤ (4 * r + 2) * w := Nat.mul_le_mul_right _ h3.2
          have h5 : 4 * r * w ≤ (K + 2) * w := Nat.mul_le_mul_right _ h3.1
          rw [Nat.add_mul] at h5
          omega
        · have h3 : 4 * r ≤ K + 2 ∧ K ≤ 4 * r + 2 := by omega
          have h4 : K * w ≤ (4 * r + 2) * w := Nat.mul_le_mul_right _ h3.2
          have h5 : 4 * r * w ≤ (K + 2) * w := Nat.mul_le_mul_right _ h3.1
          rw [Nat.add_mul] at h5
          omega
      -- the half of a step
      have hh : 2 * fW (E - z) (fP m E) + 36893488147419103232 * nG (-(fP m E)) < 2 ^ (z - 1) * nT (-(fP m E)) := by
        have q1 := f_dec 1 (E - z) (fP m E) hl (by omega) he he1
        have q2 := f_bin 1 (z - 1) (E - z) (fP m E) (by omega) (by omega) he
        rw [Nat.one_mul, show (((z - 1 : Nat) : Int) + (E - z)) = E - 1 from by omega] at q2
        rw [Nat.mul_one] at q1
        have q3 := N2 1 (E - 1) (by omega)
        rw [show E - 1 + 1 = E from by omega, N_mul] at q3
        rw [← e] at L
        have q4 := Nat.mul_lt_mul_of_pos_right L f0_pos
        rw [Nat.mul_assoc, Nat.mul_assoc, ← q1, q3] at q4
        have q5 : 2 * N 1 (E - 1) * f0 = 2 * (2 ^ (z - 1) * nT (-(fP m E))) * fc (E - z) (fP m E) := by
          rw [Nat.mul_assoc, ← q2]; grind
        rw [q5] at q4
        have q6 : 18446744073709551617 * (4 * fW (E - z) (fP m E)) < 18446744073709551616 * (2 * (2 ^ (z - 1) * nT (-(fP m E)))) := by
          refine Nat.lt_of_mul_lt_mul_right (a := fc (E - z) (fP m E)) ?_
          rw [Nat.mul_assoc 18446744073709551617, Nat.mul_assoc 18446744073709551616]
          exact q4
        omega
      have eM : m * 2 ^ z = 2 * (m * 2 ^ (z - 1)) := by
        have hz : 2 ^ z = 2 * 2 ^ (z - 1) := by rw [show z = z - 1 + 1 from by omega, Nat.pow_succ, Nat.mul_comm]; rfl
        rw [hz]; grind
      have a1 : (2 * m - 1) * 2 ^ (z - 1) * nT (-(fP m E)) + 2 ^ (z - 1) * nT (-(fP m E)) = m * 2 ^ z * nT (-(fP m E)) := by
        rw [eM, ← Nat.add_mul]
        congr 1
        have : 2 * m - 1 + 1 = 2 * m := by omega
        calc (2 * m - 1) * 2 ^ (z - 1) + 2 ^ (z - 1) = (2 * m - 1 + 1) * 2 ^ (z - 1) := by rw [Nat.add_mul, Nat.one_mul]
          _ = 2 * m * 2 ^ (z - 1) := by rw [this]
          _ = _ := by rw [Nat.mul_assoc]
      have a2 : (2 * m + 1) * 2 ^ (z - 1) * nT (-(fP m E)) = m * 2 ^ z * nT (-(fP m E)) + 2 ^ (z - 1) * nT (-(fP m E)) := by
        rw [eM, ← Nat.add_mul]
        congr 1
        grind
      rw [Nat.add_mul] at near
      have b1 : (2 * m - 1) * 2 ^ (z - 1) * nT (-(fP m E)) < 4 * r * fW (E - z) (fP m E) := by omega
      have b2 : 4 * r * fW (E - z) (fP m E) < (2 * m + 1) * 2 ^ (z - 1) * nT (-(fP m E)) := by omega
      have c1 := Nat.mul_lt_mul_of_pos_right b1 (fc_pos (E - z) (fP m E))
      have c2 := Nat.mul_lt_mul_of_pos_right b2 (fc_pos (E - z) (fP m E))
      rw [f_bin _ _ _ _ (by omega) (by omega) he, f_dec _ _ _ hl (by omega) he he1, show (((z - 1 : Nat) : Int) + (E - z)) = E - 1 from by omega] at c1 c2
      exact ⟨Nat.lt_of_mul_lt_mul_right c1, Nat.lt_of_mul_lt_mul_right c2⟩
  unfold In
  rw [if_neg ns]
  refine ⟨?_, ?_⟩
  · split
    · exact Nat.le_of_lt key.1
    · exact key.1
  · split
    · exact Nat.le_of_lt key.2
    · exact key.2

structure Ok (m : Nat) (E : Int) (r : Nat × Int) : Prop where
  inn : In m E r.1 r.2
  pos : 0 < r.1
  lt : r.1 < 100000000000000000
  lo : -324 ≤ r.2
  hi : r.2 ≤ 309
theorem short_P {m z : Nat} {E : Int} (F : Fin m E) : -324 ≤ (short m z E).2 ∧ (short m z E).2 ≤ 309 := by
  have G := fP_f F
  have := G.lo
  have := G.hi
  unfold short
  split
  · exact ⟨by show -324 ≤ fP m E + 1; omega, by show fP m E + 1 ≤ 309; omega⟩
  · split
    · exact ⟨by show -324 ≤ fP m E; omega, by show fP m E ≤ 309; omega⟩
    · exact ⟨by show -324 ≤ fP m E; omega, by show fP m E ≤ 309; omega⟩
theorem short_ok {m z : Nat} {E : Int} (F : Fin m E) (Z : Zs m z) : Ok m E (short m z E) := by
  have hP := short_P (z := z) F
  obtain ⟨z1, z2, z3⟩ := zs_f F Z
  by_cases ns : Skew m E
  · have hz := z3 (by have := ns.1; omega)
    have := sk_f E ns.2 F.hi
    obtain ⟨rfl, hE⟩ := ns
    subst hz
    exact ⟨this.2.1, this.2.2.1, this.2.2.2, hP.1, hP.2⟩
  · have q0 := dlo_pos F Z
    have q1 := dhi_lt F Z ns
    have rin := round_in F Z ns
    have G := fP_f F
    have gl := G.lo
    suffices h : In m E (short m z E).1 (short m z E).2 ∧ 0 < (short m z E).1 ∧ (short m z E).1 < 100000000000000000 from ⟨h.1, h.2.1, h.2.2, hP.1, hP.2⟩
    have hu : fu (m * 2 ^ z) (E - z) (fP m E) < 2 ^ 60 := by
      obtain ⟨_, _, H⟩ := fs_of F Z
      have R := row_f (-(fP m E)) (by have := H.p1; omega) (by have := H.p0; omega)
      exact us_lt H.x1 R.h1 (by have := H.s0; omega)
    -- the rounded one is below 2^57 too
    have hr : rnd (fu (m * 2 ^ z) (E - z) (fP m E)) < 100000000000000000 := by
      have L := (l10_f E F.lo F.hi).2.1
      have e : fP m E = l10 E := if_neg ns
      have h1 := rin.2
      have hlt := F.lt
      have hlo := F.lo
      have h2 : wv (rnd (fu (m * 2 ^ z) (E - z) (fP m E))) (fP m E) ≤ N (2 * m + 1) (E - 1) := by
        split at h1
        · exact h1
        · exact Nat.le_of_lt h1
      have h3 : N (2 * m + 1) (E - 1) ≤ N (2 * 9007199254740992) (E - 1) := N_mono _ (by omega)
      have h4 := N2 9007199254740992 (E - 1) (by omega)
      rw [show E - 1 + 1 = E from by omega] at h4
      have h5 : N 9007199254740992 E = 9007199254740992 * N 1 E := by rw [← N_mul]
      have h6 : wv 10 (l10 E) = 10 * wv 1 (l10 E) := by rw [← wv_mul]
      have h7 : wv (rnd (fu (m * 2 ^ z) (E - z) (fP m E))) (fP m E) = rnd (fu (m * 2 ^ z) (E - z) (fP m E)) * wv 1 (l10 E) := by rw [← wv_mul, Nat.mul_one, e]
      rcases Nat.lt_or_ge (rnd (fu (m * 2 ^ z) (E - z) (fP m E))) 100000000000000000 with g | g
      · exact g
      · have := Nat.mul_le_mul_right (wv 1 (l10 E)) g
        omega
    have bt := (between F Z _ (show rnd (fu (m * 2 ^ z) (E - z) (fP m E)) < 2 ^ 57 by omega)).mpr rin
    unfold short
    split
    · rename_i c
      refine ⟨?_, by show 0 < dhi m z E / 10; omega, by show dhi m z E / 10 < _; omega⟩
      have := (between F Z (dhi m z E / 10 * 10) (by omega)).mp ⟨c, by omega⟩
      have e : wv (dhi m z E / 10) (fP m E + 1) = wv (dhi m z E / 10 * 10) (fP m E) := by rw [wv_up _ _ (by omega), Nat.mul_comm (dhi m z E / 10)]
      unfold In at this ⊢
      dsimp only
      rw [e]
      exact this
    · split
      · exact ⟨rin, by show 0 < rnd _; omega, by show rnd _ < _; omega⟩
      · rename_i c1 c2
        exact ⟨(between F Z _ (by omega)).mp ⟨Nat.le_refl _, by omega⟩, by show 0 < dlo m z E; omega, by show dlo m z E < _; omega⟩
end Sc
end Go.Proofs.YtedllapajgcfeaaGreatDoor
