/-
  '==' and '!=' of places.
-/
import Derived.Test.YtckcgiimeaklcaaDoorWWords
import Derived.Test.YtckcgiimeaklcaaDoorDv
import Derived.Test.YtckcgiimeaklcaaDoorChecked
import Derived.ChangeKeysEq
import Derived.Lib.Hide
import Derived.WalkKit
import Derived.WalkLawsBesides
import Derived.WalkSpells
import Derived.BigQuiet
import Derived.Lib.Hide
namespace Go.Proofs.YtckcgiimeaklcaaDoor
set_option linter.unusedVariables false
set_option linter.unusedSimpArgs false
open Go.RowKit Go.Proofs.YtckcgiimeaklcaaDoorW.PrintWords

theorem nat_beq2 (a b : Nat) : ((a : Int) == (b : Int)) = (a == b) := by rw [Bool.eq_iff_iff, beq_iff_eq, beq_iff_eq]; omega
theorem eqi2_cons {P : Program} {w : World} {d : Nat} {e : TypeId} {c i : Nat} {is : List Nat} {xs ys : Array Value} {a b : Value} {r s : Bool} (ha : (part e xs (i * c)).run P w = .ok a w) (hb : (part e ys (i * c)).run P w = .ok b w) (he : (Op.equalIn d e a b).run P w = .ok r w) (hr : (Op.eqItems d e c xs ys is).run P w = .ok s w) :
    (Op.eqItems d e c xs ys (i :: is)).run P w = .ok (r && s) w := by
  rw [Op.eqItems]
  simp only [Sem.run_bind, ha, hb, he, Result.andThen_ok]
  cases r
  · simp
  · simpa using hr
theorem eqP (d : Nat) (w : World) (s t : W2) : (Op.equalIn (d + 2) 53 (.agg #[.int .u64 s.a, .int .u64 s.b]) (.agg #[.int .u64 t.a, .int .u64 t.b])).run Tryd.prog w = .ok (decide (s = t)) w := by
  obtain ⟨i, hi⟩ : ∃ i, Tryd.prog.info? 51 = some i := Option.isSome_iff_exists.1 (by kernel_rfl)
  rw [run_equalIn_array w (d + 1) _ _ Tryd.underlying53 hi]
  have hc : Tryd.prog.cellsOf 51 = 1 := by kernel_rfl
  have hr : List.range 2 = [0, 1] := by decide
  rw [hc, hr]
  have e : decide (s = t) = ((s.a == t.a) && (s.b == t.b)) := by
    obtain ⟨a, b⟩ := s
    obtain ⟨a', b'⟩ := t
    rw [Bool.eq_iff_iff]; simp
  rw [e]
  rw [← Bool.and_true (s.b == t.b)]
  refine eqi2_cons (by go_simp; rfl) (by go_simp; rfl) (by go_simp; exact nat_beq2 _ _) ?_
  refine eqi2_cons (by go_simp; rfl) (by go_simp; rfl) (by go_simp; exact nat_beq2 _ _) ?_
  simp [Op.eqItems]
theorem eq_raw (s t : W2) (w : World) : (Op.equalIn 10000 53 (.agg #[.int .u64 s.a, .int .u64 s.b]) (.agg #[.int .u64 t.a, .int .u64 t.b])).run Tryd.prog w = .ok (decide (s = t)) w := eqP 9998 w s t
theorem eq_pl (s t : W2) (w : World) : (binOp .eql 53 (.agg #[.int .u64 s.a, .int .u64 s.b]) (.agg #[.int .u64 t.a, .int .u64 t.b])).run Tryd.prog w = .ok (.bool (decide (s = t))) w := by
  have h := eqP 9998 w s t
  have h2 : (Op.equal 53 (.agg #[.int .u64 s.a, .int .u64 s.b]) (.agg #[.int .u64 t.a, .int .u64 t.b])).run Tryd.prog w = .ok (decide (s = t)) w := h
  simp [binOp, h2]
theorem neq_pl (s t : W2) (w : World) : (binOp .neq 53 (.agg #[.int .u64 s.a, .int .u64 s.b]) (.agg #[.int .u64 t.a, .int .u64 t.b])).run Tryd.prog w = .ok (.bool (!decide (s = t))) w := by
  have h := eqP 9998 w s t
  have h2 : (Op.equal 53 (.agg #[.int .u64 s.a, .int .u64 s.b]) (.agg #[.int .u64 t.a, .int .u64 t.b])).run Tryd.prog w = .ok (decide (s = t)) w := h
  simp [binOp, h2]
end Go.Proofs.YtckcgiimeaklcaaDoor
