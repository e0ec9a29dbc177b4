/-
  What is said of a float64 is what is read: the digits and the point of a text, read by a fold. No program in sight.
-/
import Derived.Test.YtedllapajgcfeaaGreatDoorWg
import Derived.Test.YtedllapajgcfeaaGreatDoorRd
namespace Go.Proofs.YtedllapajgcfeaaGreatDoor
set_option linter.unusedVariables false
set_option linter.unusedSimpArgs false
namespace Rf

/-- A digit's character. -/
def ch (d k j : Nat) : UInt8 := UInt8.ofNat (dc d k j)
theorem dc_bd (d k j : Nat) : 48 ≤ dc d k j ∧ dc d k j ≤ 57 := by
  unfold dc
  have : d / 10 ^ (k - 1 - j) % 10 < 10 := Nat.mod_lt _ (by omega)
  omega
theorem ch_nat (d k j : Nat) : (ch d k j).toNat = dc d k j := by
  have := dc_bd d k j
  unfold ch
  rw [UInt8.toNat_ofNat']
  omega
def chs (d k : Nat) : List UInt8 := (List.range k).map (ch d k)
theorem chs_len (d k : Nat) : (chs d k).length = k := by simp [chs]
theorem chs_get (d k j : Nat) (h : j < (chs d k).length) : (chs d k)[j] = ch d k j := by simp [chs]
theorem chs_take_succ (d k j : Nat) (h : j < k) : (chs d k).take (j + 1) = (chs d k).take j ++ [ch d k j] := by
  rw [take_snoc _ j (by rw [chs_len]; exact h), chs_get]
/-- Reading digits: from a state that has read none but zeros, or some. -/
def ad (s : S) (d k j : Nat) : S := ⟨s.mant * 10 ^ j + d / 10 ^ (k - j) % 10 ^ j, s.nd + j, s.dp, s.dot, true⟩
theorem fold_digits (s : S) (d k : Nat) (h0 : s.nd = 0 → d / 10 ^ (k - 1) % 10 ≠ 0) : ∀ j, j ≤ k → 1 ≤ j → ((chs d k).take j).foldl step s = ad s d k j := by
  intro j
  induction j with
  | zero => intro _ h; omega
  | succ j ih =>
    intro hj _
    have hc := ch_nat d k j
    have hb := dc_bd d k j
    have hne : ch d k j ≠ 46 := fun e => by rw [e] at hc; have : (46 : UInt8).toNat = 46 := rfl; omega
    have hdig : (ch d k j).toNat - 48 = d / 10 ^ (k - 1 - j) % 10 := by rw [hc]; unfold dc; omega
    rw [chs_take_succ d k j (by omega), List.foldl_append, List.foldl_cons, List.foldl_nil]
    have key : d / 10 ^ (k - (j + 1)) % 10 ^ (j + 1) = d / 10 ^ (k - j) % 10 ^ j * 10 + d / 10 ^ (k - 1 - j) % 10 := by
      have e1 : 10 ^ (k - j) = 10 ^ (k - (j + 1)) * 10 := by rw [← Nat.pow_succ]; congr 1; omega
      rw [e1, ← Nat.div_div_eq_div_mul, show k - 1 - j = k - (j + 1) from by omega]
      generalize d / 10 ^ (k - (j + 1)) = q
      have e2 : 10 ^ (j + 1) = 10 * 10 ^ j := by rw [Nat.pow_succ, Nat.mul_comm]
      rw [e2, Nat.mod_mul]
      omega
    rcases Nat.eq_zero_or_pos j with z | z
    · subst z
      rw [List.take_zero, List.foldl_nil]
      unfold step ad
      rw [if_neg hne, if_neg (by
        rintro ⟨h1, h2⟩
        have := h0 h2
        rw [h1] at hdig
        rw [show k - 1 - 0 = k - 1 from by omega] at hdig
        have h48 : (48 : UInt8).toNat = 48 := rfl
        omega)]
      rw [hdig]
      simp only [Nat.zero_add, Nat.pow_one]
      rfl
    · rw [ih (by omega) z]
      unfold step ad
      rw [if_neg hne, if_neg (by rintro ⟨h1, h2⟩; dsimp only at h2; omega)]
      dsimp only
      rw [hdig, key]
      have e5 : s.mant * 10 ^ (j + 1) = s.mant * 10 ^ j * 10 := by rw [Nat.pow_succ, Nat.mul_assoc]
      rw [e5]
      generalize s.mant * 10 ^ j = a
      generalize d / 10 ^ (k - j) % 10 ^ j = b
      generalize d / 10 ^ (k - 1 - j) % 10 = c
      have e6 : (a + b) * 10 + c = a * 10 + (b * 10 + c) := by omega
      rw [e6]
      rfl
theorem fold_all (s : S) (d k : Nat) (hk : 1 ≤ k) (hd : d < 10 ^ k) (h0 : s.nd = 0 → d / 10 ^ (k - 1) % 10 ≠ 0) : (chs d k).foldl step s = ⟨s.mant * 10 ^ k + d, s.nd + k, s.dp, s.dot, true⟩ := by
  have := fold_digits s d k h0 k (Nat.le_refl _) hk
  rw [List.take_of_length_le (by rw [chs_len]; exact Nat.le_refl _)] at this
  rw [this]
  unfold ad
  rw [Nat.sub_self, Nat.pow_zero, Nat.div_one, Nat.mod_eq_of_lt hd]
def zc (n : Nat) : List UInt8 := List.replicate n 48
theorem fold_zeros (s : S) (h : s.nd = 0) : ∀ n, (zc n).foldl step s = if n = 0 then s else ⟨s.mant, 0, s.dp - n, s.dot, true⟩ := by
  intro n
  induction n with
  | zero => rfl
  | succ n ih =>
    rw [show zc (n + 1) = zc n ++ [48] from by simp [zc, List.replicate_succ'], List.foldl_append, ih, List.foldl_cons, List.foldl_nil]
    have hn : ¬ n + 1 = 0 := Nat.succ_ne_zero n
    rw [if_neg hn]
    by_cases z : n = 0
    · subst z
      rw [if_pos rfl]
      unfold step
      rw [if_neg (by decide), if_pos ⟨rfl, h⟩, h]
      rfl
    · rw [if_neg z]
      unfold step
      rw [if_neg (by decide), if_pos ⟨rfl, rfl⟩]
      dsimp only
      congr 1
      omega
theorem fold_zeros2 (s : S) (h : 0 < s.nd) (hdg : s.dig = true) : ∀ n, (zc n).foldl step s = ⟨s.mant * 10 ^ n, s.nd + n, s.dp, s.dot, true⟩ := by
  intro n
  induction n with
  | zero => cases s; simp_all [zc]
  | succ n ih =>
    rw [show zc (n + 1) = zc n ++ [48] from by simp [zc, List.replicate_succ'], List.foldl_append, ih, List.foldl_cons, List.foldl_nil]
    unfold step
    rw [if_neg (by decide), if_neg (by rintro ⟨_, h2⟩; dsimp only at h2; omega)]
    dsimp only
    rw [show (UInt8.toNat 48 - 48 : Nat) = 0 from rfl, Nat.add_zero, Nat.pow_succ, Nat.mul_assoc]
    rfl
/-! ### what may be read -/
theorem step_dot {s : S} {c : UInt8} (h : c ≠ 46) : (step s c).dot = s.dot := by
  unfold step
  rw [if_neg h]
  split <;> rfl
theorem step_pt (s : S) : step s 46 = { s with dot := true, dp := (s.nd : Int) } := rfl
theorem step_nd (s : S) (c : UInt8) : s.nd ≤ (step s c).nd := by
  unfold step
  split
  · exact Nat.le_refl _
  · split
    · exact Nat.le_refl _
    · exact Nat.le_succ _
theorem fold_nd : ∀ (l : List UInt8) (s : S), s.nd ≤ (l.foldl step s).nd
  | [], s => Nat.le_refl _
  | c :: l, s => Nat.le_trans (step_nd s c) (fold_nd l (step s c))
theorem fold_dot : ∀ (l : List UInt8) (s : S), (∀ c ∈ l, c ≠ 46) → (l.foldl step s).dot = s.dot
  | [], s, _ => rfl
  | c :: l, s, h => by
    rw [List.foldl_cons, fold_dot l _ (fun x hx => h x (List.mem_cons_of_mem _ hx)), step_dot (h c List.mem_cons_self)]
theorem dg_ne {c : UInt8} (h : Dg c) : c ≠ 46 := fun e => by
  rw [e] at h
  exact absurd h (by decide)
theorem mt_one {M : List UInt8} (h : ∀ c ∈ M, Dg c) (hn : (rd M).nd ≤ 18) (hl : M.length ≤ 40) : Mt M := by
  refine ⟨fun j hj => Or.inl (h _ (List.getElem_mem hj)), fun j hj => ?_, hl⟩
  have := fold_nd (M.drop j) (rd (M.take j))
  rw [rd, ← List.foldl_append, List.take_append_drop] at this
  exact Nat.le_trans this hn
theorem mt_two {a b : List UInt8} (ha : ∀ c ∈ a, Dg c) (hb : ∀ c ∈ b, Dg c) (hn : (rd (a ++ 46 :: b)).nd ≤ 18) (hl : (a ++ 46 :: b).length ≤ 40) : Mt (a ++ 46 :: b) := by
  refine ⟨fun j hj => ?_, fun j hj => ?_, hl⟩
  · rcases Nat.lt_trichotomy j a.length with g | g | g
    · left
      rw [List.getElem_append_left g]
      exact ha _ (List.getElem_mem g)
    · right
      subst g
      refine ⟨by simp, ?_⟩
      rw [List.take_left']
      · exact (fold_dot a s0 (fun c hc => dg_ne (ha c hc))).trans rfl
      · rfl
    · left
      rw [List.getElem_append_right (by omega)]
      obtain ⟨q, hq⟩ : ∃ q, j - a.length = q + 1 := ⟨j - a.length - 1, by omega⟩
      simp only [hq, List.getElem_cons_succ]
      exact hb _ (List.getElem_mem _)
  · have := fold_nd ((a ++ 46 :: b).drop j) (rd ((a ++ 46 :: b).take j))
    rw [rd, ← List.foldl_append, List.take_append_drop] at this
    exact Nat.le_trans this hn
theorem chs_dg (d k : Nat) : ∀ c ∈ chs d k, Dg c := by
  intro c hc
  unfold chs at hc
  rw [List.mem_map] at hc
  obtain ⟨j, _, rfl⟩ := hc
  unfold Dg
  rw [ch_nat]
  exact dc_bd d k j
theorem zc_dg (n : Nat) : ∀ c ∈ zc n, Dg c := by
  intro c hc
  unfold zc at hc
  rw [List.mem_replicate] at hc
  rw [hc.2]
  decide
/-- Where the point stands changes nothing else. -/
theorem fold_move : ∀ (l : List UInt8) (s : S) (x : Int) (y : Bool), (∀ c ∈ l, Dg c) → 0 < s.nd → l.foldl step { s with dp := x, dot := y } = { l.foldl step s with dp := x, dot := y }
  | [], s, x, y, _, _ => rfl
  | c :: l, s, x, y, h, hs => by
    have hc := dg_ne (h c List.mem_cons_self)
    have e1 : step { s with dp := x, dot := y } c = { step s c with dp := x, dot := y } := by
      unfold step
      rw [if_neg hc, if_neg hc, if_neg (by rintro ⟨_, h2⟩; dsimp only at h2; omega), if_neg (by rintro ⟨_, h2⟩; omega)]
    rw [List.foldl_cons, List.foldl_cons, e1]
    exact fold_move l (step s c) x y (fun z hz => h z (List.mem_cons_of_mem _ hz)) (Nat.lt_of_lt_of_le hs (step_nd s c))
structure Nm (d k : Nat) : Prop where
  k1 : 1 ≤ k
  k2 : k ≤ 17
  lt : d < 10 ^ k
  ge : 10 ^ (k - 1) ≤ d
theorem nm_top {d k : Nat} (N : Nm d k) : d / 10 ^ (k - 1) % 10 ≠ 0 := by
  have h1 := N.ge
  have h2 := N.lt
  have hp : 0 < 10 ^ (k - 1) := Nat.pow_pos (by omega)
  have g1 : 1 ≤ d / 10 ^ (k - 1) := (Nat.le_div_iff_mul_le hp).2 (by omega)
  have g2 : d / 10 ^ (k - 1) < 10 := Nat.div_lt_of_lt_mul (by rw [← Nat.pow_succ, show (k - 1).succ = k from by have := N.k1; omega]; exact h2)
  omega
theorem rd_digits {d k : Nat} (N : Nm d k) : rd (chs d k) = ⟨d, k, 0, false, true⟩ := by
  have := fold_all s0 d k N.k1 N.lt (fun _ => nm_top N)
  rw [rd, this]
  show S.mk (0 * 10 ^ k + d) (0 + k) 0 false true = _
  rw [Nat.zero_mul, Nat.zero_add, Nat.zero_add]
def mA (z d k : Nat) : List UInt8 := [48] ++ 46 :: (zc z ++ chs d k)
def mB (p d k : Nat) : List UInt8 := (chs d k).take p ++ 46 :: (chs d k).drop p
def mC (z d k : Nat) : List UInt8 := chs d k ++ zc z
theorem rd_A {d k : Nat} (N : Nm d k) (z : Nat) : rd (mA z d k) = ⟨d, k, -(z : Int), true, true⟩ := by
  unfold mA rd
  rw [List.foldl_append, List.foldl_cons, List.foldl_append]
  have e1 : step (List.foldl step s0 [48]) 46 = ⟨0, 0, 0, true, true⟩ := rfl
  rw [e1, fold_zeros ⟨0, 0, 0, true, true⟩ rfl]
  have e2 : (if z = 0 then (⟨0, 0, 0, true, true⟩ : S) else ⟨0, 0, 0 - (z : Int), true, true⟩) = ⟨0, 0, -(z : Int), true, true⟩ := by
    split
    · rename_i h; rw [h]; rfl
    · congr 1; omega
  rw [e2, fold_all _ d k N.k1 N.lt (fun _ => nm_top N)]
  show S.mk (0 * 10 ^ k + d) (0 + k) _ _ _ = _
  rw [Nat.zero_mul, Nat.zero_add, Nat.zero_add]
theorem rd_B {d k : Nat} (N : Nm d k) (p : Nat) (hp : 1 ≤ p) (hpk : p ≤ k) : rd (mB p d k) = ⟨d, k, (p : Int), true, true⟩ := by
  have h1 := fold_digits s0 d k (fun _ => nm_top N) p hpk hp
  have hnd : (((chs d k).take p).foldl step s0).nd = p := by rw [h1]; show 0 + p = p; omega
  have hall := rd_digits N
  unfold rd at hall
  unfold mB rd
  rw [List.foldl_append, List.foldl_cons]
  have e1 : step (((chs d k).take p).foldl step s0) 46 = { ((chs d k).take p).foldl step s0 with dp := (p : Int), dot := true } := by
    rw [step_pt]
    congr 1
    rw [hnd]
  rw [e1, fold_move _ _ _ _ (fun c hc => chs_dg d k c (List.mem_of_mem_drop hc)) (by rw [hnd]; exact hp), ← List.foldl_append, List.take_append_drop, hall]
theorem rd_C {d k : Nat} (N : Nm d k) (z : Nat) : rd (mC z d k) = ⟨d * 10 ^ z, k + z, 0, false, true⟩ := by
  have hall := rd_digits N
  unfold rd at hall
  unfold mC rd
  rw [List.foldl_append, hall]
  exact fold_zeros2 ⟨d, k, 0, false, true⟩ N.k1 rfl z
theorem mt_A {d k : Nat} (N : Nm d k) (z : Nat) (hz : z ≤ 10) : Mt (mA z d k) := by
  have h := rd_A N z
  have := N.k2
  unfold mA at *
  refine mt_two (by intro c hc; simp at hc; rw [hc]; decide) (by intro c hc; rcases List.mem_append.1 hc with g | g; exact zc_dg z c g; exact chs_dg d k c g) (by rw [h]; show k ≤ 18; omega) ?_
  simp [zc, chs_len]
  omega
theorem mt_B {d k : Nat} (N : Nm d k) (p : Nat) (hp : 1 ≤ p) (hpk : p ≤ k) : Mt (mB p d k) := by
  have h := rd_B N p hp hpk
  have := N.k2
  unfold mB at *
  refine mt_two (fun c hc => chs_dg d k c (List.mem_of_mem_take hc)) (fun c hc => chs_dg d k c (List.mem_of_mem_drop hc)) (by rw [h]; show k ≤ 18; omega) ?_
  simp [chs_len]
  omega
theorem mt_C {d k : Nat} (N : Nm d k) (z : Nat) (hz : k + z ≤ 18) : Mt (mC z d k) := by
  have h := rd_C N z
  unfold mC at *
  refine mt_one (by intro c hc; rcases List.mem_append.1 hc with g | g; exact chs_dg d k c g; exact zc_dg z c g) (by rw [h]; exact hz) ?_
  simp [zc, chs_len]
  omega
end Rf
end Go.Proofs.YtedllapajgcfeaaGreatDoor
