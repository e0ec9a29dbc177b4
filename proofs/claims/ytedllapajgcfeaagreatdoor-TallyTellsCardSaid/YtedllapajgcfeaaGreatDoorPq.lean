/-
  What a comparison and an exchange of a row's numbers want and leave.
-/
import Derived.Test.YtedllapajgcfeaaGreatDoorIn2
namespace Go.Proofs.YtedllapajgcfeaaGreatDoor
set_option linter.unusedVariables false
set_option linter.unusedSimpArgs false
open Go.RowKit Go.Proofs.YtedllapajgcfeaaGreatDoorW.PrintWords

/-- Two numbers of a row that are compared. -/
theorem cmp_ctx {T : List Value} {W : World} {g : Nat} {R : List Nat} (HR : RowF T W g R) (h64 : Fin64 R) (p q : Nat) (hp : p < R.length) (hq : q < R.length) :
    ∃ (x y : Nat) (c : Int), W.cell? ⟨g, p, none⟩ = some (.float .f64 x) ∧ W.cell? ⟨g, q, none⟩ = some (.float .f64 y) ∧ Hid (∀ z, Below W.heap.size W z → z.cell? ⟨g, p, none⟩ = some (.float .f64 x) ∧ z.cell? ⟨g, q, none⟩ = some (.float .f64 y)) ∧
      Hid (∀ z, Calls Tryz.prog 9 #[.float .f64 x, .float .f64 y] z fun e w' => e = .returned (.int .i64 c) ∧ Below z.heap.size z w') ∧ Hid ((c < 0 ↔ rk (R.getD p 0) < rk (R.getD q 0)) ∧ R.getD p 0 = x ∧ R.getD q 0 = y) :=
  ⟨R.getD p 0, R.getD q 0, cp (R.getD p 0) (R.getD q 0), HR.cell p hp, HR.cell q hq, Lib.hid fun z hz => ⟨(HR.below hz).cell p hp, (HR.below hz).cell q hq⟩, Lib.hid fun z => compare_any _ _ (h64.getD p) (h64.getD q) z, Lib.hid ⟨cp_neg _ _, rfl, rfl⟩⟩
/-- Two numbers of a row that are exchanged. -/
theorem swp_ctx {T : List Value} {z : World} {g : Nat} {R : List Nat} (HR : RowF T z g R) (p q : Nat) (hp : p < R.length) (hq : q < R.length) {x y : Nat} (hx : R.getD p 0 = x) (hy : R.getD q 0 = y) :
    z.drew.cell? ⟨g, p, none⟩ = some (.float .f64 x) ∧ z.drew.cell? ⟨g, q, none⟩ = some (.float .f64 y) ∧ z.cell? ⟨g, p, none⟩ = some (.float .f64 x) ∧ z.cell? ⟨g, q, none⟩ = some (.float .f64 y) ∧ z.drew.frozen? ⟨g, p, none⟩ = false ∧ z.drew.frozen? ⟨g, q, none⟩ = false ∧ (z.drew.setCell ⟨g, p, none⟩ (.float .f64 y)).frozen? ⟨g, q, none⟩ = false ∧
      (z.drew.setCell ⟨g, p, none⟩ (.float .f64 y)).cell? ⟨g, q, none⟩ = some (.float .f64 ((R.set p y).getD q 0)) ∧ (z.setCell ⟨g, p, none⟩ (.float .f64 y)).frozen? ⟨g, q, none⟩ = false ∧ (z.setCell ⟨g, p, none⟩ (.float .f64 y)).cell? ⟨g, q, none⟩ = some (.float .f64 ((R.set p y).getD q 0)) ∧ z.frozen? ⟨g, p, none⟩ = false ∧ z.frozen? ⟨g, q, none⟩ = false ∧
      Hid (RowF T (((z.setCell ⟨g, p, none⟩ (.float .f64 y)).setCell ⟨g, q, none⟩ (.float .f64 x)).drew) g (sw R p q)) := by
  have hRd : RowF T z.drew g R := HR
  have hRa : RowF T (z.drew.setCell ⟨g, p, none⟩ (.float .f64 y)) g (R.set p y) := hRd.put p y hp
  have hRb : RowF T (z.setCell ⟨g, p, none⟩ (.float .f64 y)) g (R.set p y) := HR.put p y hp
  refine ⟨by rw [hRd.cell p hp, hx], by rw [hRd.cell q hq, hy], by rw [HR.cell p hp, hx], by rw [HR.cell q hq, hy], blk_frozen hRd p, blk_frozen hRd q, blk_frozen hRa q, hRa.cell q (by simp; exact hq), blk_frozen hRb q, hRb.cell q (by simp; exact hq), blk_frozen HR p, blk_frozen HR q, Lib.hid ?_⟩
  have h := hRb.put q x (by simp; exact hq)
  unfold sw
  rw [hx, hy]
  exact h
theorem bx_swp {g : Nat} {w z : World} (h : Bx g w z) (p q : Nat) (u v : Value) : Bx g w (((z.setCell ⟨g, p, none⟩ u).setCell ⟨g, q, none⟩ v).drew) := ((h.set p u).set q v).drew
end Go.Proofs.YtedllapajgcfeaaGreatDoor
