/-
  Parsing (internal/strconv's parseFloat64): a decimal number between the midpoints around a float64 is read as it. No program in sight.
-/
import Derived.Test.YtedllapajgcfeaaGreatDoorUsc
namespace Go.Proofs.YtedllapajgcfeaaGreatDoor
set_option linter.unusedVariables false
set_option linter.unusedSimpArgs false
namespace Sc
set_option exponentiation.threshold 5000
set_option maxRecDepth 20000

/-- Binary and decimal numbers in one unit. -/
def N (h : Nat) (j : Int) : Nat := h * ten 0 * 2 ^ (j + 1400).toNat
def wv (d : Nat) (P : Int) : Nat := d * ten P * 2 ^ 1400
theorem N_up (h k : Nat) (j : Int) (hj : -1400 ≤ j) : N h (j + k) = N (h * 2 ^ k) j := by
  unfold N
  rw [show (j + k + 1400).toNat = (j + 1400).toNat + k from by omega, Nat.pow_add]
  grind
theorem N_mono {h g : Nat} (j : Int) (hg : h ≤ g) : N h j ≤ N g j := Nat.mul_le_mul_right _ (Nat.mul_le_mul_right _ hg)
theorem N_lt {h g : Nat} (j : Int) (hg : h < g) : N h j < N g j := Nat.mul_lt_mul_of_pos_right (Nat.mul_lt_mul_of_pos_right hg (ten_pos 0)) (pow_pos _)
theorem N_of_lt {h g : Nat} {j : Int} (hg : N h j < N g j) : h < g := Nat.lt_of_not_le fun c => absurd (N_mono j c) (by omega)
theorem N_one_lt {i j : Int} (hi : -1400 ≤ i) (hj : -1400 ≤ j) (h : N 1 i < N 1 j) : i < j := by
  rcases Int.lt_or_le i j with g | g
  · exact g
  · obtain ⟨k, rfl⟩ : ∃ k : Nat, i = j + k := ⟨(i - j).toNat, by omega⟩
    rw [N_up _ _ _ hj] at h
    have := N_of_lt h
    have := pow_pos k
    omega

theorem Tri.scale {u k V X : Nat} (c : Nat) (hc : 0 < c) (h : Tri u k V X) : Tri u k (V * c) (X * c) := by
  rcases h with ⟨a, b⟩ | ⟨a, b⟩ | ⟨a, b⟩
  · exact Or.inl ⟨a, Nat.mul_lt_mul_of_pos_right b hc⟩
  · exact Or.inr (Or.inl ⟨a, by rw [b]⟩)
  · exact Or.inr (Or.inr ⟨a, Nat.mul_lt_mul_of_pos_right b hc⟩)

/-- uscale as parsing calls it. -/
def pu (d b : Nat) (e P : Int) : Nat := us (d * 2 ^ (64 - b)) (row P).1 (row P).2 (61 - e - b - lp P).toNat
theorem pu_cmp (d b : Nat) (e P : Int) (h1 : -345 ≤ P) (h2 : P ≤ 310) (hd : d < 2 ^ 57) (hb : b ≤ 64) (hb0 : 1 ≤ b) (hl : 2 ^ (b - 1) ≤ d) (hu : d < 2 ^ b) (he : e ≤ 1074) (hs : 0 ≤ 61 - e - b - lp P) (mm k : Nat) (hm : mm < 2 ^ 54) :
    Tri (pu d b e P) (2 * (mm * 2 ^ k)) (wv d P) (N (mm * 2 ^ k) (-e - 1)) := by
  have R := row_f P (by omega) (by omega)
  have hlp : -1200 ≤ lp P := by unfold lp; omega
  generalize hS : (61 - e - b - lp P).toNat = s
  have hx0 : 2 ^ 63 ≤ d * 2 ^ (64 - b) := by
    have : 2 ^ (b - 1) * 2 ^ (64 - b) ≤ d * 2 ^ (64 - b) := Nat.mul_le_mul_right _ hl
    rwa [← Nat.pow_add, show b - 1 + (64 - b) = 63 from by omega] at this
  have hx1 : d * 2 ^ (64 - b) < 2 ^ 64 := by
    have : d * 2 ^ (64 - b) < 2 ^ b * 2 ^ (64 - b) := Nat.mul_lt_mul_of_pos_right hu (pow_pos _)
    rwa [← Nat.pow_add, show b + (64 - b) = 64 from by omega] at this
  have hsay := us_says (d * 2 ^ (64 - b)) (row P).1 (row P).2 s (nT P) (nG P) (by omega) hx1 R.h1 R.h2 R.h3 R.h4 R.h5 R.h8
  have hW : 36893488147419103232 * nG P < 2 ^ s * (340282366920938463463374607431768211456 * nG P) := by
    have := R.h8
    have h3 : 1 * (340282366920938463463374607431768211456 * nG P) ≤ 2 ^ s * (340282366920938463463374607431768211456 * nG P) := Nat.mul_le_mul_right _ (pow_pos s)
    omega
  have eV : d * 2 ^ (64 - b) * nT P = d * ten P * 2 ^ (64 - b + 1327) := by
    unfold nT
    rw [Nat.pow_add]
    grind
  have eX : 2 * (mm * 2 ^ k) * (2 ^ s * (340282366920938463463374607431768211456 * nG P)) = mm * ten 0 * 2 ^ (1 + k + s + 128 + (lp P + 1200).toNat) := by
    unfold nG
    simp only [Nat.pow_add]
    rw [show (2 : Nat) ^ 128 = 340282366920938463463374607431768211456 from rfl, Nat.pow_one]
    grind
  have hG := R.h8
  have key := says_cmp hsay hW (mm * 2 ^ k) (fun a1 a2 => by
    have hS2 := sep P h1 h2 d mm (64 - b + 1327) (1 + k + s + 128 + (lp P + 1200).toNat) hd hm
    rw [← eV, ← eX] at hS2
    refine sep_near hS2 (G := nG P) ?_ a1 a2
    have h3 : 2 ^ 63 * (nG P * 2 ^ 127) ≤ d * 2 ^ (64 - b) * nT P := Nat.mul_le_mul hx0 R.h6
    omega)
  have key2 := key.scale (2 ^ (9 + b)) (pow_pos _)
  have e1 : d * 2 ^ (64 - b) * nT P * 2 ^ (9 + b) = wv d P := by
    rw [eV]
    unfold wv
    rw [Nat.mul_assoc, ← Nat.pow_add]
    congr 2
    omega
  have e2 : 2 * (mm * 2 ^ k) * (2 ^ s * (340282366920938463463374607431768211456 * nG P)) * 2 ^ (9 + b) = N (mm * 2 ^ k) (-e - 1) := by
    rw [eX]
    unfold N
    rw [Nat.mul_assoc, ← Nat.pow_add, show 1 + k + s + 128 + (lp P + 1200).toNat + (9 + b) = k + (-e - 1 + 1400).toNat from by omega, Nat.pow_add]
    grind
  rw [e1, e2] at key2
  unfold pu
  rw [hS]
  exact key2

/-! ### the numbers around a float64 -/
structure Fin (m : Nat) (E : Int) : Prop where
  pos : 0 < m
  lt : m < 9007199254740992
  lo : -1074 ≤ E
  hi : E ≤ 971
  sub : m < 4503599627370496 → E = -1074
/-- Between the midpoints; an even one has its ends too. -/
def In (m : Nat) (E : Int) (d : Nat) (P : Int) : Prop :=
  (if m = 4503599627370496 ∧ -1074 < E then N (4 * m - 1) (E - 2) ≤ wv d P else if m % 2 = 0 then N (2 * m - 1) (E - 1) ≤ wv d P else N (2 * m - 1) (E - 1) < wv d P) ∧
  (if m % 2 = 0 then wv d P ≤ N (2 * m + 1) (E - 1) else wv d P < N (2 * m + 1) (E - 1))
instance (m : Nat) (E : Int) (d : Nat) (P : Int) : Decidable (In m E d P) := by unfold In; infer_instance

theorem N2 (h : Nat) (j : Int) (hj : -1400 ≤ j) : N h (j + 1) = N (2 * h) j := by
  have := N_up h 1 j hj
  rw [Nat.pow_one, Nat.mul_comm h 2] at this
  exact this
theorem N4 (h : Nat) (j : Int) (hj : -1400 ≤ j) : N h (j + 2) = N (4 * h) j := by
  have := N_up h 2 j hj
  rw [show (2 : Nat) ^ 2 = 4 from rfl, Nat.mul_comm h 4] at this
  exact this
/-- What the interval says, at the half of the half of its unit. -/
theorem in_facts {m : Nat} {E : Int} {d : Nat} {P : Int} (F : Fin m E) (h : In m E d P) :
    N (4 * m - 2) (E - 2) ≤ wv d P ∧ (m % 2 = 1 → N (4 * m - 2) (E - 2) < wv d P) ∧ wv d P ≤ N (4 * m + 2) (E - 2) ∧ (m % 2 = 1 → wv d P < N (4 * m + 2) (E - 2)) ∧
    (4503599627370496 ≤ m → -1074 < E → N 18014398509481983 (E - 2) ≤ wv d P) := by
  have hE := F.lo
  have hp := F.pos
  have e1 : N (2 * m - 1) (E - 1) = N (4 * m - 2) (E - 2) := by
    have := N2 (2 * m - 1) (E - 2) (by omega)
    rw [show E - 2 + 1 = E - 1 from by omega] at this
    rw [this]; congr 1; omega
  have e2 : N (2 * m + 1) (E - 1) = N (4 * m + 2) (E - 2) := by
    have := N2 (2 * m + 1) (E - 2) (by omega)
    rw [show E - 2 + 1 = E - 1 from by omega] at this
    rw [this]; congr 1; omega
  obtain ⟨hl, hu⟩ := h
  rw [e1] at hl
  rw [e2] at hu
  have hl' : N (4 * m - 2) (E - 2) ≤ wv d P ∧ (m % 2 = 1 → N (4 * m - 2) (E - 2) < wv d P) ∧ (4503599627370496 ≤ m → -1074 < E → N 18014398509481983 (E - 2) ≤ wv d P) := by
    by_cases c : m = 4503599627370496 ∧ -1074 < E
    · rw [if_pos c] at hl
      have g := N_mono (h := 4 * m - 2) (g := 4 * m - 1) (E - 2) (by omega)
      refine ⟨by omega, by omega, fun _ _ => ?_⟩
      have : (18014398509481983 : Nat) = 4 * m - 1 := by omega
      rw [this]; exact hl
    · rw [if_neg c] at hl
      have g : 4503599627370496 ≤ m → -1074 < E → N 18014398509481983 (E - 2) ≤ N (4 * m - 2) (E - 2) := fun a1 a2 => N_mono _ (by omega)
      split at hl
      · exact ⟨hl, by omega, fun a1 a2 => Nat.le_trans (g a1 a2) hl⟩
      · exact ⟨Nat.le_of_lt hl, fun _ => hl, fun a1 a2 => Nat.le_trans (g a1 a2) (Nat.le_of_lt hl)⟩
  refine ⟨hl'.1, hl'.2.1, ?_, ?_, hl'.2.2⟩
  · split at hu
    · exact hu
    · exact Nat.le_of_lt hu
  · intro hm
    rw [if_neg (by omega)] at hu
    exact hu

/-! ### rounding -/
def rnd (u : Nat) : Nat := (u + 1 + u / 4 % 2) / 4
def shr1 (u : Nat) : Nat := if u % 2 = 1 then od (u / 2) else u / 2
theorem rnd_eq {u m : Nat} (hm : 0 < m) (h1 : 4 * m - 2 ≤ u) (h2 : m % 2 = 1 → 4 * m - 2 < u) (h3 : u ≤ 4 * m + 2) (h4 : m % 2 = 1 → u < 4 * m + 2) : rnd u = m := by
  unfold rnd
  rcases Nat.lt_or_ge u (4 * m) with c | c
  · have e : u / 4 = m - 1 := by omega
    rw [e]
    rcases Nat.mod_two_eq_zero_or_one m with g | g
    · have : (m - 1) % 2 = 1 := by omega
      rw [this]; omega
    · have := h2 g
      have : (m - 1) % 2 = 0 := by omega
      rw [this]; omega
  · have e : u / 4 = m := by omega
    rw [e]
    rcases Nat.mod_two_eq_zero_or_one m with g | g
    · rw [g]; omega
    · have := h4 g
      rw [g]; omega
theorem shr1_ge {u k : Nat} (h : 4 * k ≤ u) : 2 * k ≤ shr1 u := by unfold shr1 od; split <;> omega
theorem shr1_gt {u k : Nat} (h : 4 * k < u) : 2 * k < shr1 u := by unfold shr1 od; split <;> omega
theorem shr1_le {u k : Nat} (h : u ≤ 4 * k) : shr1 u ≤ 2 * k := by unfold shr1 od; split <;> omega
theorem shr1_lt {u k : Nat} (h : u < 4 * k) : shr1 u < 2 * k := by unfold shr1 od; split <;> omega

/-! ### parsing -/
def pe (b : Nat) (P : Int) : Int := min 1074 (53 - b - lp P)
theorem parse {m : Nat} {E : Int} {d b : Nat} {P : Int} (F : Fin m E) (h : In m E d P) (h1 : -345 ≤ P) (h2 : P ≤ 310) (hd : d < 2 ^ 57) (hb : b ≤ 64) (hb0 : 1 ≤ b) (hl : 2 ^ (b - 1) ≤ d) (hu : d < 2 ^ b) :
    8 ≤ 61 - pe b P - b - lp P ∧ 61 - pe b P - b - lp P < 64 ∧
    ((pu d b (pe b P) P < 36028797018963966 ∧ rnd (pu d b (pe b P) P) = m ∧ E = -pe b P) ∨
     (36028797018963966 ≤ pu d b (pe b P) P ∧ rnd (shr1 (pu d b (pe b P) P)) = m ∧ E = 1 - pe b P)) := by
  have R := row_f P (by omega) (by omega)
  have hlp : -1200 ≤ lp P ∧ lp P ≤ 1100 := by unfold lp; omega
  obtain ⟨f1, f2, f3, f4, f5⟩ := in_facts F h
  have hE := F.lo
  have hp := F.pos
  have hlt := F.lt
  have hsub := F.sub
  have he : pe b P ≤ 1074 := by unfold pe; omega
  have hs : 8 ≤ 61 - pe b P - b - lp P := by unfold pe; omega
  -- how great the number is
  have hA : nG P ≤ ten P * 2 ^ 1200 := by
    have := R.h6
    unfold nT at this
    rw [show (1327 : Nat) = 1200 + 127 from rfl, Nat.pow_add, ← Nat.mul_assoc] at this
    exact Nat.le_of_mul_le_mul_right this (pow_pos _)
  have hB : ten P * 2 ^ 1200 * 2 ^ 54 ≤ (2 ^ 54 - 1) * 2 * nG P := by
    have := R.h7
    unfold nT at this
    refine Nat.le_of_mul_le_mul_right (c := 2 ^ 127) ?_ (pow_pos _)
    calc ten P * 2 ^ 1200 * 2 ^ 54 * 2 ^ 127 = ten P * 2 ^ 1327 * 2 ^ 54 := by rw [show (1327 : Nat) = 1200 + 127 from rfl, Nat.pow_add]; grind
      _ ≤ _ := this
      _ = _ := by rw [show (128 : Nat) = 1 + 127 from rfl, Nat.pow_add, Nat.pow_one]; grind
  have hw0 : N 1 (b - 1 + lp P) ≤ wv d P := by
    have : 2 ^ (b - 1) * nG P ≤ d * (ten P * 2 ^ 1200) := Nat.mul_le_mul hl hA
    have := Nat.mul_le_mul_right (2 ^ 200) this
    have e1 : N 1 (b - 1 + lp P) = 2 ^ (b - 1) * nG P * 2 ^ 200 := by
      unfold N nG
      rw [show ((b : Int) - 1 + lp P + 1400).toNat = (b - 1) + (lp P + 1200).toNat + 200 from by omega, Nat.pow_add, Nat.pow_add]
      grind
    have e2 : wv d P = d * (ten P * 2 ^ 1200) * 2 ^ 200 := by
      unfold wv
      rw [show (1400 : Nat) = 1200 + 200 from rfl, Nat.pow_add]
      grind
    omega
  have hw1 : wv d P < N 18014398509481983 (b + lp P - 53) := by
    have h3 : d * (ten P * 2 ^ 1200 * 2 ^ 54) ≤ d * ((2 ^ 54 - 1) * 2 * nG P) := Nat.mul_le_mul_left _ hB
    have h4 : d * ((2 ^ 54 - 1) * 2 * nG P) < 2 ^ b * ((2 ^ 54 - 1) * 2 * nG P) := Nat.mul_lt_mul_of_pos_right hu (Nat.mul_pos (by decide) R.h8)
    have h5 : d * (ten P * 2 ^ 1200 * 2 ^ 54) < 2 ^ b * ((2 ^ 54 - 1) * 2 * nG P) := Nat.lt_of_le_of_lt h3 h4
    have h6 := Nat.mul_lt_mul_of_pos_right h5 (pow_pos 146)
    have e1 : N 18014398509481983 (b + lp P - 53) = 2 ^ b * ((2 ^ 54 - 1) * 2 * nG P) * 2 ^ 146 := by
      unfold N nG
      rw [show ((b : Int) + lp P - 53 + 1400).toNat = b + (lp P + 1200).toNat + 1 + 146 from by omega, Nat.pow_add, Nat.pow_add, Nat.pow_add, Nat.pow_one]
      rw [show (2 : Nat) ^ 54 - 1 = 18014398509481983 from rfl]
      grind
    have e2 : wv d P = d * (ten P * 2 ^ 1200 * 2 ^ 54) * 2 ^ 146 := by
      unfold wv
      rw [show (1400 : Nat) = 1200 + 54 + 146 from rfl, Nat.pow_add, Nat.pow_add]
      grind
    omega
  -- which place it is read at
  have hgap : N 18014398509481983 (b + lp P - 53) < N 1 (b + lp P + 1) := by
    have := N_up 1 54 (b + lp P - 53) (by omega)
    rw [show (b : Int) + lp P - 53 + ((54 : Nat) : Int) = b + lp P + 1 from by omega] at this
    rw [this]
    exact N_lt _ (by decide)
  have hup : N (4 * m + 2) (E - 2) < N 1 (E + 53) := by
    have := N_up 1 55 (E - 2) (by omega)
    rw [show E - 2 + ((55 : Nat) : Int) = E + 53 from by omega] at this
    rw [this]
    exact N_lt _ (by rw [Nat.one_mul, show (2 : Nat) ^ 55 = 36028797018963968 from rfl]; omega)
  have q1 : (b : Int) - 1 + lp P < E + 53 := N_one_lt (by omega) (by omega) (by omega)
  have q2 : -1076 < b + lp P := by
    have := N_mono (h := 1) (g := 4 * m - 2) (E - 2) (by omega)
    have := N_one_lt (i := E - 2) (j := b + lp P + 1) (by omega) (by omega) (by omega)
    rcases Nat.lt_or_ge 1 (4 * m - 2) with _ | _
    · have := N_up 1 1 (E - 2) (by omega)
      have h3 := N_mono (h := 1 * 2 ^ 1) (g := 4 * m - 2) (E - 2) (by omega)
      rw [← this] at h3
      have := N_one_lt (i := E - 2 + ((1 : Nat) : Int)) (j := b + lp P + 1) (by omega) (by omega) (by omega)
      omega
    · omega
  have q3 : 4503599627370496 ≤ m → -1074 < E → E - 2 < b + lp P - 53 := by
    intro a1 a2
    have := f5 a1 a2
    rcases Int.lt_or_le (E - 2) (b + lp P - 53) with g | g
    · exact g
    · obtain ⟨k, hk⟩ : ∃ k : Nat, E - 2 = (b + lp P - 53) + k := ⟨(E - 2 - (b + lp P - 53)).toNat, by omega⟩
      rw [hk, N_up _ _ _ (by omega)] at this
      have h3 := N_mono (h := 18014398509481983) (g := 18014398509481983 * 2 ^ k) (b + lp P - 53) (Nat.le_mul_of_pos_right _ (pow_pos k))
      omega
  have q4 : 4503599627370496 ≤ m → E + 51 < b + lp P + 1 := by
    intro a1
    have h3 := N_mono (h := 1 * 2 ^ 53) (g := 4 * m - 2) (E - 2) (by rw [Nat.one_mul, show (2 : Nat) ^ 53 = 9007199254740992 from rfl]; omega)
    rw [← N_up 1 53 (E - 2) (by omega)] at h3
    have := N_one_lt (i := E - 2 + ((53 : Nat) : Int)) (j := b + lp P + 1) (by omega) (by omega) (by omega)
    omega
  have q5 : m < 4503599627370496 → (b : Int) - 1 + lp P < -1022 := by
    intro a1
    have hE2 := hsub a1
    have h3 := N_mono (h := 4 * m + 2) (g := 2 ^ 54) (E - 2) (by rw [show (2 : Nat) ^ 54 = 18014398509481984 from rfl]; omega)
    have h4 := N_lt (h := 4 * m + 2) (g := 1 * 2 ^ 54) (E - 2) (by rw [Nat.one_mul, show (2 : Nat) ^ 54 = 18014398509481984 from rfl]; omega)
    rw [← N_up 1 54 (E - 2) (by omega)] at h4
    have := N_one_lt (i := b - 1 + lp P) (j := E - 2 + ((54 : Nat) : Int)) (by omega) (by omega) (by omega)
    omega
  have hEe : E = -pe b P ∨ (E = 1 - pe b P ∧ 4503599627370496 ≤ m ∧ -1074 < E) := by
    unfold pe
    rcases Nat.lt_or_ge m 4503599627370496 with a | a
    · have := q5 a
      have := hsub a
      omega
    · have := q4 a
      by_cases a2 : -1074 < E
      · have := q3 a a2
        omega
      · omega
  refine ⟨hs, by unfold pe; omega, ?_⟩
  have C := fun mm k hm => pu_cmp d b (pe b P) P h1 h2 hd hb hb0 hl hu he (by omega) mm k hm
  generalize pu d b (pe b P) P = u at *
  have cT := C 18014398509481983 0 (by decide)
  rw [Nat.pow_zero, Nat.mul_one, show 2 * 18014398509481983 = 36028797018963966 from rfl] at cT
  rcases hEe with hEe | ⟨hEe, a1, a2⟩
  · -- as it stands
    left
    have c1 := C (2 * m - 1) 0 (by omega)
    have c2 := C (2 * m + 1) 0 (by omega)
    rw [Nat.pow_zero, Nat.mul_one] at c1 c2
    have e0 : -pe b P - 1 = E - 2 + 1 := by omega
    rw [e0, N2 _ _ (by omega)] at c1 c2 cT
    rw [show 2 * (2 * m - 1) = 4 * m - 2 from by omega] at c1
    rw [show 2 * (2 * m + 1) = 4 * m + 2 from by omega] at c2
    rw [show 2 * 18014398509481983 = 36028797018963966 from rfl] at cT
    unfold Tri at c1 c2 cT
    have g1 : 4 * m + 2 ≤ 36028797018963966 := by omega
    have g2 : u < 36028797018963966 := by
      rcases Nat.lt_or_ge (4 * m + 2) 36028797018963966 with g | g
      · have := N_lt (E - 2) g
        omega
      · have hodd : m % 2 = 1 := by omega
        have := f4 hodd
        have h3 : 4 * m + 2 = 36028797018963966 := by omega
        rw [h3] at this
        omega
    refine ⟨g2, rnd_eq hp (by omega) (fun o => ?_) (by omega) (fun o => ?_), hEe⟩
    · have := f2 o; omega
    · have := f4 o; omega
  · right
    have c1 := C (2 * m - 1) 1 (by omega)
    have c2 := C (2 * m + 1) 1 (by omega)
    have e0 : -pe b P - 1 = E - 2 := by omega
    rw [e0] at c1 c2 cT
    rw [show (2 * m - 1) * 2 ^ 1 = 4 * m - 2 from by omega] at c1
    rw [show (2 * m + 1) * 2 ^ 1 = 4 * m + 2 from by omega] at c2
    unfold Tri at c1 c2 cT
    have := f5 a1 a2
    refine ⟨by omega, rnd_eq hp ?_ (fun o => ?_) ?_ (fun o => ?_), hEe⟩
    · have := shr1_ge (u := u) (k := 2 * m - 1) (by omega); omega
    · have := f2 o
      have := shr1_gt (u := u) (k := 2 * m - 1) (by omega); omega
    · have := shr1_le (u := u) (k := 2 * m + 1) (by omega); omega
    · have := f4 o
      have := shr1_lt (u := u) (k := 2 * m + 1) (by omega); omega
end Sc
end Go.Proofs.YtedllapajgcfeaaGreatDoor
