/-
  Scaling by a power of ten as internal/strconv does it (uscale): its answer stands to each even number as the exact product does, where the two are not merely near. No program in sight.
-/
import Derived.Test.YtedllapajgcfeaaGreatDoorCer
namespace Go.Proofs.YtedllapajgcfeaaGreatDoor
set_option linter.unusedVariables false
set_option linter.unusedSimpArgs false
namespace Sc
set_option exponentiation.threshold 5000
set_option maxRecDepth 20000

/-! ### the rows of the table -/
def nG (P : Int) : Nat := ten 0 * 2 ^ (lp P + 1200).toNat
def nT (P : Int) : Nat := ten P * 2 ^ 1327
def okr (P : Int) (r : Nat × Nat) : Bool :=
  let G := nG P; let T := nT P
  decide (r.1 < 2 ^ 64) && decide (r.2 < 2 ^ 64) && decide (2 ^ 63 ≤ r.1) && decide (T + r.2 * G ≤ r.1 * 2 ^ 64 * G) &&
  decide (r.1 * 2 ^ 64 * G < T + r.2 * G + G) && decide (G * 2 ^ 127 ≤ T) && decide (T * 2 ^ 54 ≤ (2 ^ 54 - 1) * 2 ^ 128 * G) && decide (0 < G)
theorem rows_len : Go.Pinned.pow10Rows.length = 696 := by decide +kernel
theorem rows_ok : chk okr Go.Pinned.pow10Rows (-348) = true := by decide +kernel
def row (P : Int) : Nat × Nat := Go.Pinned.pow10Rows.getD (P + 348).toNat (0, 0)
structure RowF (P : Int) (hi lo : Nat) : Prop where
  h1 : hi < 2 ^ 64
  h2 : lo < 2 ^ 64
  h3 : 2 ^ 63 ≤ hi
  h4 : nT P + lo * nG P ≤ hi * 2 ^ 64 * nG P
  h5 : hi * 2 ^ 64 * nG P < nT P + lo * nG P + nG P
  h6 : nG P * 2 ^ 127 ≤ nT P
  h7 : nT P * 2 ^ 54 ≤ (2 ^ 54 - 1) * 2 ^ 128 * nG P
  h8 : 0 < nG P
theorem row_f (P : Int) (h1 : -348 ≤ P) (h2 : P ≤ 347) : RowF P (row P).1 (row P).2 := by
  have hl : (P + 348).toNat < Go.Pinned.pow10Rows.length := by rw [rows_len]; omega
  have := chk_at Go.Pinned.pow10Rows (-348) rows_ok (P + 348).toNat hl
  rw [show (-348 : Int) + ((P + 348).toNat : Int) = P from by omega] at this
  have e : row P = Go.Pinned.pow10Rows[(P + 348).toNat] := by unfold row; rw [List.getD_eq_getElem?_getD, List.getElem?_eq_getElem hl]; rfl
  rw [← e] at this
  unfold okr at this
  simp only [Bool.and_eq_true, decide_eq_true_eq] at this
  exact ⟨this.1.1.1.1.1.1.1, this.1.1.1.1.1.1.2, this.1.1.1.1.1.2, this.1.1.1.1.2, this.1.1.1.2, this.1.1.2, this.1.2, this.2⟩

/-! ### uscale -/
def od (k : Nat) : Nat := k / 2 * 2 + 1
def us (x hi lo s : Nat) : Nat :=
  let h := x * hi / 18446744073709551616
  let m := x * hi % 18446744073709551616
  if h % 2 ^ s ≠ 0 then od (h / 2 ^ s)
  else
    let m2 := x * lo / 18446744073709551616
    if m < m2 then od ((h - 1) / 2 ^ s)
    else if m2 + 1 < m then od (h / 2 ^ s)
    else h / 2 ^ s
/-- What the answer says of the exact product. -/
def Says (u V W G : Nat) : Prop := ∃ K, (u = od K ∧ K * W < V ∧ V < (K + 1) * W) ∨ (u = K ∧ V ≤ K * W + 36893488147419103232 * G ∧ K * W ≤ V + 36893488147419103232 * G)

theorem us_says (x hi lo s T G : Nat) (hx0 : 2 ≤ x) (hx : x < 18446744073709551616) (h1 : hi < 18446744073709551616) (h2 : lo < 18446744073709551616) (h3 : 9223372036854775808 ≤ hi)
    (h4 : T + lo * G ≤ hi * 18446744073709551616 * G) (h5 : hi * 18446744073709551616 * G < T + lo * G + G) (hG : 0 < G) :
    Says (us x hi lo s) (x * T) (2 ^ s * (340282366920938463463374607431768211456 * G)) G := by
  have hD : 0 < 2 ^ s := Nat.two_pow_pos s
  have e1 := Nat.div_add_mod (x * hi) 18446744073709551616
  have e2 := Nat.div_add_mod (x * lo) 18446744073709551616
  have r1 := Nat.mod_lt (x * hi) (show 18446744073709551616 > 0 by omega)
  have r2 := Nat.mod_lt (x * lo) (show 18446744073709551616 > 0 by omega)
  have b1 : 2 * 9223372036854775808 ≤ x * hi := Nat.mul_le_mul hx0 h3
  have b2 : x * (lo + 1) ≤ 18446744073709551615 * 18446744073709551616 := Nat.mul_le_mul (by omega) (by omega)
  have v1 : x * (T + lo * G) ≤ x * (hi * 18446744073709551616 * G) := Nat.mul_le_mul_left _ h4
  have v2 : x * (hi * 18446744073709551616 * G) < x * (T + lo * G + G) := Nat.mul_lt_mul_of_pos_left h5 (by omega)
  unfold us
  dsimp only
  generalize hh : x * hi / 18446744073709551616 = h at *
  generalize hm : x * hi % 18446744073709551616 = m at *
  generalize hm2 : x * lo / 18446744073709551616 = m2 at *
  generalize hl2 : x * lo % 18446744073709551616 = l2 at *
  have hp : 1 ≤ h := by omega
  have w1 : x * T + (18446744073709551616 * m2 + l2) * G ≤ (18446744073709551616 * h + m) * 18446744073709551616 * G := by
    rw [e1, e2]; grind
  have w2 : (18446744073709551616 * h + m) * 18446744073709551616 * G < x * T + (18446744073709551616 * m2 + l2) * G + x * G := by
    rw [e1, e2]; grind
  have bx : x * G ≤ 18446744073709551615 * G := Nat.mul_le_mul_right _ (by omega)
  have bs : (18446744073709551616 * m2 + l2) * G + x * G ≤ 340282366920938463444927863358058659840 * G := by
    rw [← Nat.add_mul]
    refine Nat.mul_le_mul_right _ ?_
    rw [e2]
    have : x * (lo + 1) = x * lo + x := by rw [Nat.mul_add, Nat.mul_one]
    omega
  have bm : m * G ≤ 18446744073709551615 * G := Nat.mul_le_mul_right _ (by omega)
  have bl : l2 * G ≤ 18446744073709551615 * G := Nat.mul_le_mul_right _ (by omega)
  have dm := Nat.div_add_mod h (2 ^ s)
  have rm := Nat.mod_lt h hD
  generalize hV : x * T = V at *
  generalize hq : h / 2 ^ s = q at *
  generalize hr : h % 2 ^ s = r at *
  generalize hDD : 2 ^ s = D at *
  have n1 : (18446744073709551616 * h + m) * 18446744073709551616 * G = 340282366920938463463374607431768211456 * (h * G) + 18446744073709551616 * (m * G) := by grind
  have n2 : (18446744073709551616 * m2 + l2) * G = 18446744073709551616 * (m2 * G) + l2 * G := by grind
  have nW : ∀ k, k * (D * (340282366920938463463374607431768211456 * G)) = 340282366920938463463374607431768211456 * (k * D * G) := by intro k; grind
  rw [n1, n2] at w1 w2
  rw [n2] at bs
  by_cases hr0 : r = 0
  · rw [if_neg (by simpa using hr0)]
    have eh : h = q * D := by rw [← dm, hr0, Nat.mul_comm]; rfl
    have ehG : h * G = q * D * G := by rw [eh]
    by_cases c1 : m < m2
    · rw [if_pos c1]
      have hq1 : 1 ≤ q := by
        rcases Nat.eq_zero_or_pos q with z | z
        · rw [z, Nat.zero_mul] at eh; omega
        · exact z
      have eq1 : (h - 1) / D = q - 1 := by
        have : h - 1 = (q - 1) * D + (D - 1) := by
          have : q * D = (q - 1) * D + D := by
            have := Nat.sub_add_cancel hq1
            calc q * D = (q - 1 + 1) * D := by rw [this]
              _ = _ := by rw [Nat.add_mul, Nat.one_mul]
          omega
        rw [this, Nat.mul_comm, Nat.mul_add_div hD, Nat.div_eq_of_lt (by omega), Nat.add_zero]
      rw [eq1]
      have c1G : (m + 1) * G ≤ m2 * G := Nat.mul_le_mul_right _ c1
      rw [Nat.add_mul, Nat.one_mul] at c1G
      have hk : (q - 1) * D * G + D * G = q * D * G := by
        have := Nat.sub_add_cancel hq1
        calc (q - 1) * D * G + D * G = (q - 1 + 1) * D * G := by rw [Nat.add_mul, Nat.one_mul, Nat.add_mul]
          _ = _ := by rw [this]
      have hDG : G ≤ D * G := Nat.le_mul_of_pos_left _ hD
      refine ⟨q - 1, Or.inl ⟨rfl, ?_, ?_⟩⟩
      · rw [nW]; omega
      · rw [Nat.sub_add_cancel hq1, nW]; omega
    · rw [if_neg c1]
      by_cases c2 : m2 + 1 < m
      · rw [if_pos c2]
        have c2G : (m2 + 2) * G ≤ m * G := Nat.mul_le_mul_right _ c2
        rw [Nat.add_mul] at c2G
        have hDG : G ≤ D * G := Nat.le_mul_of_pos_left _ hD
        refine ⟨q, Or.inl ⟨rfl, ?_, ?_⟩⟩
        · rw [nW]; omega
        · rw [nW, show (q + 1) * D * G = q * D * G + D * G from by rw [Nat.add_mul, Nat.one_mul, Nat.add_mul]]; omega
      · rw [if_neg c2]
        have c2G : m * G ≤ (m2 + 1) * G := Nat.mul_le_mul_right _ (by omega)
        have c1G : m2 * G ≤ m * G := Nat.mul_le_mul_right _ (by omega)
        rw [Nat.add_mul, Nat.one_mul] at c2G
        refine ⟨q, Or.inr ⟨rfl, ?_, ?_⟩⟩
        · rw [nW]; omega
        · rw [nW]; omega
  · rw [if_pos hr0]
    have eh : q * D + r = h := by rw [← dm, Nat.mul_comm D q]
    have g1 : (q * D + 1) * G ≤ h * G := Nat.mul_le_mul_right _ (by omega)
    have g2 : (h + 1) * G ≤ (q * D + D) * G := Nat.mul_le_mul_right _ (by omega)
    rw [Nat.add_mul, Nat.one_mul] at g1
    rw [Nat.add_mul, Nat.one_mul, Nat.add_mul] at g2
    refine ⟨q, Or.inl ⟨rfl, ?_, ?_⟩⟩
    · rw [nW]; omega
    · rw [nW, show (q + 1) * D * G = q * D * G + D * G from by rw [Nat.add_mul, Nat.one_mul, Nat.add_mul]]; omega

/-- How the answer stands to an even number. -/
def Tri (u k V X : Nat) : Prop := (u < k ∧ V < X) ∨ (u = k ∧ V = X) ∨ (k < u ∧ X < V)
theorem says_cmp {u V W G : Nat} (h : Says u V W G) (hW : 36893488147419103232 * G < W) (k : Nat)
    (ex : V ≤ 2 * k * W + 36893488147419103232 * G → 2 * k * W ≤ V + 36893488147419103232 * G → V = 2 * k * W) : Tri u (2 * k) V (2 * k * W) := by
  obtain ⟨K, ⟨rfl, h1, h2⟩ | ⟨rfl, h1, h2⟩⟩ := h
  · rcases Nat.lt_or_ge K (2 * k) with g | g
    · have : (K + 1) * W ≤ 2 * k * W := Nat.mul_le_mul_right _ g
      exact Or.inl ⟨by unfold od; omega, by omega⟩
    · have : 2 * k * W ≤ K * W := Nat.mul_le_mul_right _ g
      exact Or.inr (Or.inr ⟨by unfold od; omega, by omega⟩)
  · rcases Nat.lt_trichotomy u (2 * k) with g | g | g
    · have : (u + 1) * W ≤ 2 * k * W := Nat.mul_le_mul_right _ g
      rw [Nat.add_mul, Nat.one_mul] at this
      exact Or.inl ⟨g, by omega⟩
    · rw [← g] at ex ⊢
      exact Or.inr (Or.inl ⟨rfl, ex h1 h2⟩)
    · have : (2 * k + 1) * W ≤ u * W := Nat.mul_le_mul_right _ g
      rw [Nat.add_mul, Nat.one_mul] at this
      exact Or.inr (Or.inr ⟨g, by omega⟩)

/-! ### a decimal number and a binary one -/
def Sep (L R : Nat) : Prop := L = R ∨ R * M + L ≤ L * M ∨ L * M + L ≤ R * M
theorem sep_scale {L R c : Nat} (hc : 0 < c) (h : Sep (L * c) (R * c)) : Sep L R := by
  generalize hM : M = m
  unfold Sep at *
  rw [hM] at h ⊢
  rcases h with h | h | h
  · exact Or.inl (Nat.eq_of_mul_eq_mul_right hc h)
  · refine Or.inr (Or.inl (Nat.le_of_mul_le_mul_right ?_ hc))
    calc (R * m + L) * c = R * c * m + L * c := by grind
      _ ≤ L * c * m := h
      _ = L * m * c := by grind
  · refine Or.inr (Or.inr (Nat.le_of_mul_le_mul_right ?_ hc))
    calc (L * m + L) * c = L * c * m + L * c := by grind
      _ ≤ R * c * m := h
      _ = R * m * c := by grind
theorem sep_ap {A B y K : Nat} (hAB : 2 * A < B) (h : Ap A B y K) : Sep (A * y) (K * B) := by
  have : A * y ≤ y * B := by rw [Nat.mul_comm y B]; exact Nat.mul_le_mul_right _ (by omega)
  unfold Sep
  unfold Ap at h
  generalize M = m at *
  rcases h with h | h | h
  · exact Or.inl h
  · exact Or.inr (Or.inl (by omega))
  · exact Or.inr (Or.inr (by omega))
theorem pow_pos (n : Nat) : 0 < 2 ^ n := Nat.two_pow_pos n
theorem ten_pos (P : Int) : 0 < ten P := Nat.pow_pos (by omega)
theorem ge_pow {a n m : Nat} (h : n ≤ m) (ha : 1 ≤ a) : 2 ^ n ≤ a * 2 ^ m := by
  have h1 : 2 ^ n ≤ 2 ^ m := Nat.pow_le_pow_right (by omega) h
  have h2 : 1 * 2 ^ m ≤ a * 2 ^ m := Nat.mul_le_mul_right _ ha
  omega
/-- The fact that the table is for. -/
theorem sep (P : Int) (h1 : -345 ≤ P) (h2 : P ≤ 310) (d mm i j : Nat) (hd : d < 2 ^ 57) (hm : mm < 2 ^ 54) : Sep (d * ten P * 2 ^ i) (mm * ten 0 * 2 ^ j) := by
  obtain ⟨hA, hB⟩ := nA_lo P h1 h2
  have hl : 0 ≤ lp P + 1202 := by unfold lp; omega
  by_cases ht : (i : Int) + lp P + 2 ≤ j
  · -- the fraction K / d
    have h := sep_ap hB (apart P h1 h2 d (mm * 2 ^ ((j : Int) - i - lp P - 2).toNat) hd)
    unfold nA nB at h
    refine sep_scale (pow_pos 1200) ?_
    have e1 : d * ten P * 2 ^ i * 2 ^ 1200 = ten P * 2 ^ 1200 * d * 2 ^ i := by grind
    have e2 : mm * ten 0 * 2 ^ j * 2 ^ 1200 = mm * 2 ^ ((j : Int) - i - lp P - 2).toNat * (ten 0 * 2 ^ (lp P + 1202).toNat) * 2 ^ i := by
      have : 2 ^ j * 2 ^ 1200 = 2 ^ ((j : Int) - i - lp P - 2).toNat * 2 ^ (lp P + 1202).toNat * 2 ^ i := by
        rw [← Nat.pow_add, ← Nat.pow_add, ← Nat.pow_add]
        congr 1
        omega
      rw [Nat.mul_assoc, this]
      grind
    rw [e1, e2]
    rcases h with h | h | h
    · exact Or.inl (by rw [h])
    · refine Or.inr (Or.inl ?_)
      have := Nat.mul_le_mul_right (2 ^ i) h
      generalize M = m at *
      grind
    · refine Or.inr (Or.inr ?_)
      have := Nat.mul_le_mul_right (2 ^ i) h
      generalize M = m at *
      grind
  · -- the fraction mm / y, y = d * 2 ^ t
    obtain ⟨t, ht'⟩ : ∃ t : Nat, (t : Int) = i + lp P + 2 - j := ⟨(i + lp P + 2 - j).toNat, by omega⟩
    have e0 : 2 ^ t * (2 ^ j * 2 ^ 1200) = 2 ^ i * 2 ^ (lp P + 1202).toNat := by
      rw [← Nat.pow_add, ← Nat.pow_add, ← Nat.pow_add]
      congr 1
      omega
    refine sep_scale (c := 2 ^ t * 2 ^ 1200) (Nat.mul_pos (pow_pos _) (pow_pos _)) ?_
    have e1 : d * ten P * 2 ^ i * (2 ^ t * 2 ^ 1200) = nA P * (d * 2 ^ t) * 2 ^ i := by unfold nA; grind
    have e2 : mm * ten 0 * 2 ^ j * (2 ^ t * 2 ^ 1200) = mm * nB P * 2 ^ i := by
      unfold nB
      calc mm * ten 0 * 2 ^ j * (2 ^ t * 2 ^ 1200) = mm * ten 0 * (2 ^ t * (2 ^ j * 2 ^ 1200)) := by grind
        _ = mm * ten 0 * (2 ^ i * 2 ^ (lp P + 1202).toNat) := by rw [e0]
        _ = _ := by grind
    rw [e1, e2]
    have key : Sep (nA P * (d * 2 ^ t)) (mm * nB P) := by
      by_cases hy : d * 2 ^ t < 2 ^ 57
      · exact sep_ap hB (apart P h1 h2 _ mm hy)
      · -- far away
        have f1 : nA P * 2 ^ 57 ≤ nA P * (d * 2 ^ t) := Nat.mul_le_mul_left _ (by omega)
        have f2 : mm * nB P ≤ (2 ^ 54 - 1) * nB P := Nat.mul_le_mul_right _ (by omega)
        refine Or.inr (Or.inl ?_)
        generalize nA P * (d * 2 ^ t) = L at *
        generalize mm * nB P = R at *
        generalize nA P = A at *
        generalize nB P = B at *
        have hM : M = 2 * (M / 2) := by decide
        have : 2 * R ≤ L := by omega
        have g1 : 2 * R * (M / 2) ≤ L * (M / 2) := Nat.mul_le_mul_right _ this
        have g2 : L * 1 ≤ L * (M / 2) := Nat.mul_le_mul_left _ (by decide)
        rw [hM]
        generalize M / 2 = m at *
        grind
    rcases key with h | h | h
    · exact Or.inl (by rw [h])
    · refine Or.inr (Or.inl ?_)
      have := Nat.mul_le_mul_right (2 ^ i) h
      generalize M = m at *
      grind
    · refine Or.inr (Or.inr ?_)
      have := Nat.mul_le_mul_right (2 ^ i) h
      generalize M = m at *
      grind
/-- Near ones are equal. -/
theorem sep_near {L R G : Nat} (h : Sep L R) (hL : 392318858461667547739736838950479151006397215279002157056 * G ≤ L + 36893488147419103232 * G) (h1 : L ≤ R + 36893488147419103232 * G) (h2 : R ≤ L + 36893488147419103232 * G) : L = R := by
  have hM : (M : Nat) = 5316911983139663491615228241121378304 := by decide
  unfold Sep at h
  rw [hM] at h
  omega
end Sc
end Go.Proofs.YtedllapajgcfeaaGreatDoor
