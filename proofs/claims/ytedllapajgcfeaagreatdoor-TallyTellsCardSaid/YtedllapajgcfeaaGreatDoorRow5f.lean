/-
  A list of floats as an argument.
-/
import Derived.Test.YtedllapajgcfeaaGreatDoorRow5
import Derived.Test.YtedllapajgcfeaaGreatDoorRs5
namespace Go.Proofs.YtedllapajgcfeaaGreatDoor
set_option linter.unusedVariables false
set_option linter.unusedSimpArgs false
open Go.ChangeShapes Go.WideShapes Go.ChangeAt Go.RowKit

section
variable {H : Type} {enc : TypeId × Value → H} {P : Program}
theorem trod_flt {w : World} {base : Nat} {spare : Nat → Bool} {held : Bool} {n : Nat} {e : TypeId} {cs : List Value} {y : DataW H × List MemPlace} (he : P.underlying e = some (.float .f64)) (h : DataW.trod enc P w base spare held n e cs = some y) : ∃ b, cs = [.float .f64 b] ∧ b < 18446744073709551616 := by
  cases n with
  | zero => simp [DataW.trod] at h
  | succ n =>
    unfold DataW.trod at h
    rw [he] at h
    split at h <;> simp_all [Lit.wf]
    rename_i hk
    subst hk
    have hh := (Option.ite_none_right_eq_some.1 h).1
    exact ⟨_, ⟨hh.1, rfl⟩, by simpa using hh.2⟩
theorem open_floats_arg {W : World} {t e : TypeId} {b0 : Nat} {v : Value} {d : DataW H} {p : List MemPlace} (ht : P.underlying t = some (.slice e)) (he : P.underlying e = some (.float .f64)) (hc : P.cellsOf e = 1)
    (hv : Value.okWide P W .any b0 t v) (h : DataW.Trod enc P W 0 (fun _ => true) true t v d p) (hlt : ∀ x ∈ p, x.block < W.heap.size) :
    ∃ (a0 : Option Addr) (cap : Nat) (l : List Nat), v = .slice a0 l.length cap ∧ Fin64 l ∧ ArgF W a0 l := by
  obtain ⟨fuel, hf⟩ := h
  have hsl : ∃ a0 len cap, v = .slice a0 len cap := by
    simp only [Value.okWide, ht, Cell.okWide] at hv
    cases v <;> simp_all [Cell.ok]
  obtain ⟨a0, len, cap, rfl⟩ := hsl
  rcases DataW.trod_slice ht hf with ⟨hcs, hx⟩ | ⟨a, len', cap', elems, rest, n, _, hcs, hx, _, hl, hm, hlen, hel, hsp, _⟩
  · simp [Value.cells] at hcs
    obtain ⟨rfl, rfl, rfl⟩ := hcs
    exact ⟨none, 0, [], rfl, fun x hx => by simp at hx, fun h => by simp at h⟩
  · simp [Value.cells] at hcs
    obtain ⟨rfl, rfl, rfl⟩ := hcs
    simp only [Prod.mk.injEq] at hx
    obtain ⟨rfl, rfl⟩ := hx
    have each : ∀ i, i < len → ∃ b, W.cell? (a.add i) = some (.float .f64 b) ∧ b < 18446744073709551616 := by
      intro i hi
      have h1 := hel i hi
      rw [hc, Nat.mul_one, List.getElem?_eq_getElem (by omega)] at h1
      obtain ⟨cs', hcs', hy⟩ := Option.bind_eq_some_iff.1 h1
      obtain ⟨b, rfl, hb⟩ := trod_flt he hy
      exact ⟨b, cell_of_cells?_one hcs', hb⟩
    let num : Nat → Nat := fun i => match W.cell? (a.add i) with | some (.float .f64 b) => b | _ => 0
    have hnum : ∀ i, i < len → W.cell? (a.add i) = some (.float .f64 (num i)) ∧ num i < 18446744073709551616 := by
      intro i hi
      obtain ⟨b, h1, h2⟩ := each i hi
      have : num i = b := by show (match W.cell? (a.add i) with | some (.float .f64 b) => b | _ => 0) = b; rw [h1]
      rw [this]; exact ⟨h1, h2⟩
    refine ⟨some a, cap, (List.range len).map num, by simp, ?_, fun _ => ⟨a, rfl, fun z hz k hk => ?_⟩⟩
    · intro x hx
      obtain ⟨i, hi, rfl⟩ := List.mem_map.1 hx
      exact (hnum i (List.mem_range.1 hi)).2
    · have hk' : k < len := by simpa using hk
      have hblk : a.block < W.heap.size := by
        obtain ⟨b, off, spot⟩ := a
        exact hlt (.cell b off) (List.mem_append_left _ (MemPlace.mem_row.2 ⟨0, by rw [hlen, hc]; omega, by simp⟩))
      have hb2 : (a.add k).block = a.block := by unfold Addr.add; split <;> rfl
      rw [hz.cell (p := a.add k) (by rw [hb2]; exact hblk), (hnum k hk').1]
      simp [List.getD_eq_getElem?_getD, hk']
end
theorem wf_flt {b : Nat} (h : (Lit.float .f64 b).wf = true) : b < 18446744073709551616 := by simpa [Lit.wf] using h
end Go.Proofs.YtedllapajgcfeaaGreatDoor
