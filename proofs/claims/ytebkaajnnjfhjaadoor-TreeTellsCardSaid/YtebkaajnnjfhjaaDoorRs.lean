/-
  The runs of a set, start by start, as the document takes them. No program in sight.
-/
import Derived.Test.YtebkaajnnjfhjaaDoorRuns
namespace Go.Proofs.YtebkaajnnjfhjaaDoor
set_option linter.unusedVariables false
set_option linter.unusedSimpArgs false
namespace Tr

def mfrom (h : Nat → Bool) (k : Nat) : B := ((List.range' k (256 - k)).filter h).map UInt8.ofNat
theorem mems_from (s : W4) : mems s = mfrom s.has 0 := by unfold mems mfrom; rw [List.range_eq_range']
theorem mfrom_end (h : Nat → Bool) (k : Nat) (hk : 256 ≤ k) : mfrom h k = [] := by
  unfold mfrom
  rw [show 256 - k = 0 by omega]; rfl
theorem mfrom_step (h : Nat → Bool) (k : Nat) (hk : k < 256) : mfrom h k = if h k then UInt8.ofNat k :: mfrom h (k + 1) else mfrom h (k + 1) := by
  unfold mfrom
  rw [show 256 - k = (256 - (k + 1)) + 1 by omega, List.range'_succ, List.filter_cons]
  split <;> rfl
theorem ofNat_toNat {k : Nat} (hk : k < 256) : (UInt8.ofNat k).toNat = k := by simp; omega
/-- The runs yet to be printed at a byte. -/
def rest (h : Nat → Bool) (k : Nat) : List (UInt8 × UInt8) := if 0 < k ∧ h (k - 1) = true ∧ h k = true then (runs (mfrom h k)).tail else runs (mfrom h k)
theorem rest_end (h : Nat → Bool) (k : Nat) (hk : 256 ≤ k) : rest h k = [] := by
  unfold rest
  rw [mfrom_end h k hk]
  split <;> rfl
theorem runs_on (h : Nat → Bool) (d : Nat) : ∀ k, 256 - k ≤ d → k < 256 → h k = true → ∃ z : Nat, runs (mfrom h k) = (UInt8.ofNat k, UInt8.ofNat z) :: rest h (k + 1) ∧ k ≤ z ∧ z < 256 ∧ (∀ j, k ≤ j → j ≤ z → h j = true) ∧ (z = 255 ∨ h (z + 1) = false) := by
  induction d with
  | zero => intro k h1 h2; omega
  | succ d ih =>
    intro k h1 hk hh
    rw [mfrom_step h k hk, if_pos hh, runs]
    by_cases hk2 : k + 1 < 256
    · cases hn : h (k + 1) with
      | true =>
        obtain ⟨z, e, z1, z2, z3, z4⟩ := ih (k + 1) (by omega) hk2 hn
        rw [e]
        simp only
        rw [if_pos (by rw [ofNat_toNat hk, ofNat_toNat hk2])]
        refine ⟨z, ?_, by omega, z2, fun j j1 j2 => ?_, z4⟩
        · congr 1
          have er : rest h (k + 1) = (runs (mfrom h (k + 1))).tail := by unfold rest; rw [if_pos ⟨by omega, by simpa using hh, hn⟩]
          rw [er, e]
          rfl
        · by_cases hj : j = k
          · subst hj; exact hh
          · exact z3 j (by omega) j2
      | false =>
        have er : rest h (k + 1) = runs (mfrom h (k + 1)) := by unfold rest; rw [if_neg (by rw [hn]; simp)]
        refine ⟨k, ?_, by omega, hk, fun j j1 j2 => by rw [show j = k by omega]; exact hh, .inr hn⟩
        rw [er]
        cases hr : runs (mfrom h (k + 1)) with
        | nil => rfl
        | cons p r =>
          obtain ⟨y, z⟩ := p
          simp only
          rw [if_neg]
          intro he
          have hy : y ∈ mfrom h (k + 1) := by
            cases hm : mfrom h (k + 1) with
            | nil => rw [hm] at hr; simp [runs] at hr
            | cons x t =>
              obtain ⟨z', r', e⟩ := runs_head x t
              rw [hm, e] at hr
              simp only [List.cons.injEq, Prod.mk.injEq] at hr
              rw [← hr.1.1]; simp
          unfold mfrom at hy
          obtain ⟨q, hq, rfl⟩ := List.mem_map.1 hy
          obtain ⟨hq1, hq2⟩ := List.mem_filter.1 hq
          rw [List.mem_range'_1] at hq1
          rw [ofNat_toNat hk, ofNat_toNat (by omega)] at he
          rw [he, hn] at hq2
          cases hq2
    · refine ⟨k, ?_, by omega, hk, fun j j1 j2 => by rw [show j = k by omega]; exact hh, .inl (by omega)⟩
      rw [mfrom_end h (k + 1) (by omega), rest_end h (k + 1) (by omega)]
      rfl
theorem rest_skip {h : Nat → Bool} {k : Nat} (hk : k < 256) (hn : h k = false ∨ (0 < k ∧ h (k - 1) = true)) : rest h k = rest h (k + 1) := by
  cases hh : h k with
  | false =>
    unfold rest
    rw [if_neg (by rw [hh]; simp), if_neg (by rw [Nat.add_sub_cancel, hh]; simp), mfrom_step h k hk, hh]
    rfl
  | true =>
    rcases hn with hn | ⟨h0, hp⟩
    · rw [hh] at hn; cases hn
    · obtain ⟨z, e, _⟩ := runs_on h (256 - k) k (Nat.le_refl _) hk hh
      have : rest h k = (runs (mfrom h k)).tail := by unfold rest; rw [if_pos ⟨h0, hp, hh⟩]
      rw [this, e]
      rfl
theorem rest_take {h : Nat → Bool} {k e : Nat} (hh : h k = true) (hp : k = 0 ∨ h (k - 1) = false) (he1 : k ≤ e) (he2 : e < 256) (he3 : ∀ j, k ≤ j → j ≤ e → h j = true) (he4 : e = 255 ∨ h (e + 1) = false) : rest h k = (UInt8.ofNat k, UInt8.ofNat e) :: rest h (k + 1) := by
  obtain ⟨z, e', z1, z2, z3, z4⟩ := runs_on h (256 - k) k (Nat.le_refl _) (by omega) hh
  have : rest h k = runs (mfrom h k) := by
    unfold rest
    rw [if_neg]
    rintro ⟨a, b, c⟩
    rcases hp with hp | hp
    · omega
    · rw [hp] at b; cases b
  have hez : e = z := by
    rcases Nat.lt_trichotomy e z with hlt | heq | hgt
    · rcases he4 with he4 | he4
      · omega
      · rw [z3 (e + 1) (by omega) (by omega)] at he4; cases he4
    · exact heq
    · rcases z4 with z4 | z4
      · omega
      · rw [he3 (z + 1) (by omega) (by omega)] at z4; cases z4
  rw [this, e', hez]
/-! ### how many, and the last -/
def cnt (h : Nat → Bool) (k : Nat) : Nat := ((List.range k).filter h).length
theorem cnt_succ (h : Nat → Bool) (k : Nat) : cnt h (k + 1) = cnt h k + (if h k then 1 else 0) := by
  unfold cnt
  rw [List.range_succ, List.filter_append, List.length_append]
  cases hk : h k <;> simp [hk]
theorem cnt_le (h : Nat → Bool) (k : Nat) : cnt h k ≤ k := by
  unfold cnt
  have := List.length_filter_le h (List.range k)
  rw [List.length_range] at this
  exact this
theorem mems_cnt (s : W4) : (mems s).length = cnt s.has 256 := by unfold mems cnt; rw [List.length_map]
def lst (h : Nat → Bool) : Nat → Nat
  | 0 => 0
  | k + 1 => if h k then k else lst h k
theorem lst_le (h : Nat → Bool) (k : Nat) : lst h k ≤ k := by
  induction k with
  | zero => exact Nat.le_refl _
  | succ k ih => rw [lst]; split <;> omega
theorem filter_last (h : Nat → Bool) (k : Nat) (hc : cnt h k = 1) : (List.range k).filter h = [lst h k] := by
  induction k with
  | zero => simp [cnt] at hc
  | succ k ih =>
    have hs := cnt_succ h k
    rw [List.range_succ, List.filter_append, lst]
    cases hk : h k with
    | true =>
      rw [hk] at hs
      simp only [if_true] at hs ⊢
      have : ((List.range k).filter h).length = 0 := by unfold cnt at hs hc; omega
      rw [List.length_eq_zero_iff.1 this]
      simp [hk]
    | false =>
      rw [hk] at hs
      simp only [Bool.false_eq_true, if_false] at hs ⊢
      rw [ih (by omega)]
      simp [hk]
theorem pset_one {s : W4} (hc : cnt s.has 256 = 1) : pset s = one (UInt8.ofNat (lst s.has 256)) marks := by
  have hm : mems s = [UInt8.ofNat (lst s.has 256)] := by unfold mems; rw [filter_last _ _ hc]; rfl
  unfold pset
  rw [hm]
  rfl
theorem pset_all {s : W4} (hc : cnt s.has 256 = 256) : pset s = [46] := by
  unfold pset
  rw [if_pos (by rw [mems_cnt, hc])]
theorem lst_lt (h : Nat → Bool) (k : Nat) (hk : 0 < k) : lst h k < k := by
  induction k with
  | zero => omega
  | succ k ih =>
    rw [lst]
    split
    · omega
    · rcases k with _ | k
      · rw [lst]; omega
      · have := ih (by omega); omega
theorem full_len (s : W4) : ((runs (mems s)).flatMap prun).length ≤ 2304 := by
  have h1 := runs_len (mems s)
  have h2 := mems_cnt s
  have h3 := cnt_le s.has 256
  have key : ∀ rs : List (UInt8 × UInt8), (rs.flatMap prun).length ≤ 9 * rs.length := by
    intro rs
    induction rs with
    | nil => simp
    | cons a rs ih =>
      rw [List.flatMap_cons, List.length_append, List.length_cons]
      have := prun_len a
      omega
  have := key (runs (mems s))
  omega
end Tr
end Go.Proofs.YtebkaajnnjfhjaaDoor
