/-
  How a decimal number's text is read (internal/strconv's readFloat): a fold over its characters. No program in sight.
-/
import Derived.WalkKit
namespace Go.Proofs.YtedllapajgcfeaaGreatDoor
set_option linter.unusedVariables false
set_option linter.unusedSimpArgs false
namespace Rf

structure S where
  mant : Nat
  nd : Nat
  dp : Int
  dot : Bool
  dig : Bool
def s0 : S := ⟨0, 0, 0, false, false⟩
def step (s : S) (c : UInt8) : S :=
  if c = 46 then { s with dot := true, dp := s.nd }
  else if c = 48 ∧ s.nd = 0 then { s with dig := true, dp := s.dp - 1 }
  else { s with dig := true, nd := s.nd + 1, mant := s.mant * 10 + (c.toNat - 48) }
def rd (l : List UInt8) : S := l.foldl step s0
theorem rd_snoc (l : List UInt8) (c : UInt8) : rd (l ++ [c]) = step (rd l) c := by simp [rd, List.foldl_append]
def Dg (c : UInt8) : Prop := 48 ≤ c.toNat ∧ c.toNat ≤ 57
instance (c : UInt8) : Decidable (Dg c) := by unfold Dg; infer_instance
/-- What the reader meets. -/
structure Mt (M : List UInt8) : Prop where
  ch : ∀ j (h : j < M.length), Dg M[j] ∨ (M[j] = 46 ∧ (rd (M.take j)).dot = false)
  nd : ∀ j, j ≤ M.length → (rd (M.take j)).nd ≤ 18
  len : M.length ≤ 40
theorem take_snoc (M : List UInt8) (j : Nat) (h : j < M.length) : M.take (j + 1) = M.take j ++ [M[j]] := by
  rw [List.take_add_one, List.getElem?_eq_getElem h]; rfl
theorem mant_lt (M : List UInt8) (H : Mt M) : ∀ j, j ≤ M.length → (rd (M.take j)).mant < 10 ^ (rd (M.take j)).nd ∧ -(j : Int) ≤ (rd (M.take j)).dp ∧ (rd (M.take j)).dp ≤ 18 := by
  intro j
  induction j with
  | zero => intro _; exact ⟨by show 0 < 10 ^ 0; decide, by show -((0 : Nat) : Int) ≤ 0; decide, by show (0 : Int) ≤ 18; decide⟩
  | succ j ih =>
    intro hj
    obtain ⟨h1, h2, h3⟩ := ih (by omega)
    have hn := H.nd j (by omega)
    rw [take_snoc M j (by omega), rd_snoc]
    unfold step
    by_cases c1 : M[j] = 46
    · rw [if_pos c1]
      dsimp only
      refine ⟨h1, by omega, by omega⟩
    · rw [if_neg c1]
      by_cases c2 : M[j] = 48 ∧ (rd (M.take j)).nd = 0
      · rw [if_pos c2]
        dsimp only
        refine ⟨h1, by omega, by omega⟩
      · rw [if_neg c2]
        have hd : Dg M[j] := by
          rcases H.ch j (by omega) with h | h
          · exact h
          · exact absurd h.1 c1
        unfold Dg at hd
        dsimp only
        refine ⟨by rw [Nat.pow_succ]; omega, by omega, by omega⟩
end Rf
end Go.Proofs.YtedllapajgcfeaaGreatDoor
