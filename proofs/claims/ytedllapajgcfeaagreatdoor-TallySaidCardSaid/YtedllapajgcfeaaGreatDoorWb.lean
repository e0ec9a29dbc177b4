/-
  internal/strconv.prescale, the logarithms and the roundings at any argument: walked.
-/
import Derived.Test.YtedllapajgcfeaaGreatDoorWa
namespace Go.Proofs.YtedllapajgcfeaaGreatDoor
set_option linter.unusedVariables false
set_option linter.unusedSimpArgs false
open Go.RowKit Go.Proofs.YtedllapajgcfeaaGreatDoorW.PrintWords

theorem i64w (x : Int) (h1 : -9223372036854775808 ≤ x) (h2 : x ≤ 9223372036854775807) : IntKind.i64.wrap x = x := by
  simp only [IntKind.wrap, IntKind.bits, IntKind.signed]
  simp
  omega
theorem u64w (x : Int) (h1 : 0 ≤ x) (h2 : x < 18446744073709551616) : IntKind.u64.wrap x = x := by
  simp only [IntKind.wrap, IntKind.bits, IntKind.signed]
  simp
  omega
theorem log10_any (x : Int) (h1 : -2000 ≤ x) (h2 : x ≤ 2000) (w : World) : Calls Tryz.prog 65 #[.int .i64 x] w fun e w' => e = .returned (.int .i64 (Sc.l10 x)) ∧ w = w' := by
  have e := i64w (x * 78913) (by omega) (by omega)
  go_enter Tryz.func65, Tryz.ntmps65
  go_wp2_with fail
  go_ret
  exact ⟨rfl, rfl⟩
theorem log2_any (x : Int) (h1 : -2000 ≤ x) (h2 : x ≤ 2000) (w : World) : Calls Tryz.prog 99 #[.int .i64 x] w fun e w' => e = .returned (.int .i64 (Sc.lp x)) ∧ w = w' := by
  have e := i64w (x * 108853) (by omega) (by omega)
  go_enter Tryz.func99, Tryz.ntmps99
  go_wp2_with fail
  go_ret
  exact ⟨rfl, rfl⟩
theorem skew_any (x : Int) (h1 : -2000 ≤ x) (h2 : x ≤ 2000) (w : World) : Calls Tryz.prog 97 #[.int .i64 x] w fun e w' => e = .returned (.int .i64 (Sc.sk x)) ∧ w = w' := by
  have e := i64w (x * 631305) (by omega) (by omega)
  have e2 := i64w (x * 631305 - 261663) (by omega) (by omega)
  go_enter Tryz.func97, Tryz.ntmps97
  go_wp2_with fail
  go_ret
  exact ⟨rfl, rfl⟩
theorem nudge_up (u o : Nat) (hu : u < 1152921504606846976) (ho : o ≤ 1) (w : World) : Calls Tryz.prog 101 #[.int .u64 u, .int .i64 o] w fun e w' => e = .returned (.int .u64 (u + o : Nat)) ∧ w = w' := by
  have e1 := u64w (o : Int) (by omega) (by omega)
  have e2 := u64w ((u : Int) + (o : Int)) (by omega) (by omega)
  go_enter Tryz.func101, Tryz.ntmps101
  go_wp2_with fail
  go_ret
  exact ⟨by push_cast; rfl, rfl⟩
theorem nudge_dn (u o : Nat) (hu : u < 1152921504606846976) (hl : 1 ≤ u) (ho : o ≤ 1) (w : World) : Calls Tryz.prog 101 #[.int .u64 u, .int .i64 (-(o : Int))] w fun e w' => e = .returned (.int .u64 (u - o : Nat)) ∧ w = w' := by
  have e2 : IntKind.u64.wrap ((u : Int) + IntKind.u64.wrap (-(o : Int))) = ((u - o : Nat) : Int) := by
    simp only [IntKind.wrap, IntKind.bits, IntKind.signed]
    simp
    omega
  go_enter Tryz.func101, Tryz.ntmps101
  go_wp2_with fail
  go_ret
  exact ⟨rfl, rfl⟩
theorem ceil_any (u : Nat) (hu : u < 2305843009213693952) (w : World) : Calls Tryz.prog 102 #[.int .u64 u] w fun e w' => e = .returned (.int .u64 ((u + 3) / 4 : Nat)) ∧ w = w' := by
  have e2 := u64w ((u : Int) + 3) (by omega) (by omega)
  go_enter Tryz.func102, Tryz.ntmps102
  go_wp2_with fail
  go_ret
  exact ⟨by push_cast; rfl, rfl⟩
theorem floor_any (u : Nat) (hu : u < 2305843009213693952) (w : World) : Calls Tryz.prog 103 #[.int .u64 u] w fun e w' => e = .returned (.int .u64 (u / 4 : Nat)) ∧ w = w' := by
  have e2 := u64w ((u : Int)) (by omega) (by omega)
  go_enter Tryz.func103, Tryz.ntmps103
  go_wp2_with fail
  go_ret
  exact ⟨by push_cast; rfl, rfl⟩
theorem u64_and_one (k : Nat) (hk : k < 18446744073709551616) : bits .and .u64 (k : Int) 1 = ((k % 2 : Nat) : Int) := by
  rw [show (1 : Int) = ((1 : Nat) : Int) from rfl, u64_and_nat k 1 hk (by decide), Nat.and_one_is_mod]
theorem round_any (u : Nat) (hu : u < 2305843009213693952) (w : World) : Calls Tryz.prog 104 #[.int .u64 u] w fun e w' => e = .returned (.int .u64 (Sc.rnd u : Nat)) ∧ w = w' := by
  have e0 := u64w ((u : Int) + 1) (by omega) (by omega)
  have e1 : bits .and .u64 ((u : Int) / 4) 1 = ((u / 4 % 2 : Nat) : Int) := by
    rw [show (u : Int) / 4 = ((u / 4 : Nat) : Int) from by push_cast; rfl]
    exact u64_and_one _ (by omega)
  have e2 := u64w ((u : Int) + 1 + ((u / 4 % 2 : Nat) : Int)) (by omega) (by omega)
  go_enter Tryz.func104, Tryz.ntmps104
  go_wp2_with fail
  go_ret
  exact ⟨by unfold Sc.rnd; push_cast; rfl, rfl⟩
theorem unmin_any (w : World) : Calls Tryz.prog 107 #[.int .u64 9007199254740992] w fun e w' => e = .returned (.int .u64 36028797018963966) ∧ w = w' := by
  go_enter Tryz.func107, Tryz.ntmps107
  go_wp2_with fail
  go_ret
  exact ⟨rfl, rfl⟩
/-- The table of powers of ten. -/
def TabP (w : World) : Prop := 10 < w.heap.size ∧ ∀ P : Int, -348 ≤ P → P ≤ 347 → w.cell? ⟨10, (P + 348).toNat * 2, none⟩ = some (.int .u64 ((Sc.row P).1 : Nat)) ∧ w.cell? ⟨10, (P + 348).toNat * 2 + 1, none⟩ = some (.int .u64 ((Sc.row P).2 : Nat))
theorem prescale_any (g : Nat) (e P lp : Int) (he : -3000 ≤ e ∧ e ≤ 3000) (hl : -3000 ≤ lp ∧ lp ≤ 3000) (w : World) (hK : w.heap[g]? = some (.cells #[.int .u64 0, .int .u64 0, .int .i64 0] 138 (0, 0))) (hT : TabP w) (h1 : -348 ≤ P) (h2 : P ≤ 347) (hg : g ≠ 10) :
    Calls Tryz.prog 98 #[.pointer (some ⟨g, 0, none⟩), .int .i64 e, .int .i64 P, .int .i64 lp] w fun e' w' => e' = .returned (.tuple #[]) ∧ w' = ((w.setCell ⟨g, 0, none⟩ (.int .u64 ((Sc.row P).1 : Nat))).setCell ⟨g, 1, none⟩ (.int .u64 ((Sc.row P).2 : Nat))).setCell ⟨g, 2, none⟩ (.int .i64 (-(e + lp + 3))) := by
  have k0 : w.cell? ⟨g, 0, none⟩ = some (.int .u64 0) := (blk_cell hK 0).trans rfl
  have k1 : w.cell? ⟨g, 1, none⟩ = some (.int .u64 0) := (blk_cell hK 1).trans rfl
  have k2 : w.cell? ⟨g, 2, none⟩ = some (.int .i64 0) := (blk_cell hK 2).trans rfl
  have hg' : ¬ 10 = g := fun e => hg e.symm
  have f0 := blk_frozen hK 0
  have f1 := blk_frozen hK 1
  have f2 := blk_frozen hK 2
  obtain ⟨t0, t1⟩ := hT.2 P h1 h2
  obtain ⟨i, hi⟩ : ∃ i : Nat, P = (i : Int) - 348 := ⟨(P + 348).toNat, by omega⟩
  have a0 : IntKind.i64.wrap (P - (-348)) = (i : Int) := by rw [i64w _ (by omega) (by omega)]; omega
  have a1 := i64w (e + lp) (by omega) (by omega)
  have a2 := i64w (e + lp + 3) (by omega) (by omega)
  have a3 := i64w (-(e + lp + 3)) (by omega) (by omega)
  rw [show (P + 348).toNat = i from by omega] at t0 t1
  have i1 : (i : Int) < 696 := by omega
  clear hK hT
  go_enter Tryz.func98, Tryz.ntmps98
  go_wp2_with fail
  go_end0
  exact ⟨rfl, by rw [hi]⟩
end Go.Proofs.YtedllapajgcfeaaGreatDoor
