/-
  '==' and '!=' of sets, nodes, parts.
-/
import Derived.Test.YtebkaajnnjfhjaaDoorWWords
import Derived.Test.YtebkaajnnjfhjaaDoorWEqStruct
import Derived.Test.YtebkaajnnjfhjaaDoorTT
import Derived.Test.YtebkaajnnjfhjaaDoorChecked
import Derived.ChangeKeysEq
import Derived.Lib.Hide
import Derived.WalkKit
import Derived.WalkLawsBesides
import Derived.WalkSpells
import Derived.BigQuiet
import Derived.Lib.Hide
namespace Go.Proofs.YtebkaajnnjfhjaaDoor
set_option linter.unusedVariables false
set_option linter.unusedSimpArgs false
open Go.RowKit Go.Proofs.YtebkaajnnjfhjaaDoorW.PrintWords
open Tr (Nd)

theorem nat_beq (a b : Nat) : ((a : Int) == (b : Int)) = (a == b) := by rw [Bool.eq_iff_iff, beq_iff_eq, beq_iff_eq]; omega
theorem eqi_cons {P : Program} {w : World} {d : Nat} {e : TypeId} {c i : Nat} {is : List Nat} {xs ys : Array Value} {a b : Value} {r s : Bool} (ha : (part e xs (i * c)).run P w = .ok a w) (hb : (part e ys (i * c)).run P w = .ok b w) (he : (Op.equalIn d e a b).run P w = .ok r w) (hr : (Op.eqItems d e c xs ys is).run P w = .ok s w) :
    (Op.eqItems d e c xs ys (i :: is)).run P w = .ok (r && s) w := by
  rw [Op.eqItems]
  simp only [Sem.run_bind, ha, hb, he, Result.andThen_ok]
  cases r
  · simp
  · simpa using hr
theorem eqS (d : Nat) (w : World) (s t : W4) : (Op.equalIn (d + 2) 24 (.agg #[.int .u64 s.a, .int .u64 s.b, .int .u64 s.c, .int .u64 s.d]) (.agg #[.int .u64 t.a, .int .u64 t.b, .int .u64 t.c, .int .u64 t.d])).run Tryd.prog w = .ok (decide (s = t)) w := by
  obtain ⟨i, hi⟩ : ∃ i, Tryd.prog.info? 22 = some i := Option.isSome_iff_exists.1 (by kernel_rfl)
  rw [run_equalIn_array w (d + 1) _ _ Tryd.underlying24 hi]
  have hc : Tryd.prog.cellsOf 22 = 1 := by kernel_rfl
  have hr : List.range 4 = [0, 1, 2, 3] := by decide
  rw [hc, hr]
  have e : decide (s = t) = ((s.a == t.a) && ((s.b == t.b) && ((s.c == t.c) && (s.d == t.d)))) := by
    obtain ⟨a, b, c, d⟩ := s
    obtain ⟨a', b', c', d'⟩ := t
    rw [Bool.eq_iff_iff]; simp
  rw [e]
  rw [← Bool.and_true (s.d == t.d)]
  refine eqi_cons (by go_simp; rfl) (by go_simp; rfl) (by go_simp; exact nat_beq _ _) ?_
  refine eqi_cons (by go_simp; rfl) (by go_simp; rfl) (by go_simp; exact nat_beq _ _) ?_
  refine eqi_cons (by go_simp; rfl) (by go_simp; rfl) (by go_simp; exact nat_beq _ _) ?_
  refine eqi_cons (by go_simp; rfl) (by go_simp; rfl) (by go_simp; exact nat_beq _ _) ?_
  simp [Op.eqItems]
theorem eqN (d : Nat) (w : World) (n m : Nd) : (Op.equalIn (d + 3) 27 (.agg #[.int .u8 n.k, .int .u64 n.s.a, .int .u64 n.s.b, .int .u64 n.s.c, .int .u64 n.s.d, .int .i64 n.a, .int .i64 n.b, .int .i64 n.mn, .int .i64 n.mx]) (.agg #[.int .u8 m.k, .int .u64 m.s.a, .int .u64 m.s.b, .int .u64 m.s.c, .int .u64 m.s.d, .int .i64 m.a, .int .i64 m.b, .int .i64 m.mn, .int .i64 m.mx])).run Tryd.prog w = .ok (decide (n = m)) w := by
  have e : decide (n = m) = ((n.k == m.k) && (decide (n.s = m.s) && ((n.a == m.a) && ((n.b == m.b) && ((n.mn == m.mn) && (n.mx == m.mx)))))) := by
    obtain ⟨k, s, a, b, mn, mx⟩ := n
    obtain ⟨k', s', a', b', mn', mx'⟩ := m
    rw [Bool.eq_iff_iff]; simp
  rw [e]
  refine eqA_of Tryd.underlying27 (by kernel_rfl) ?_
  refine eqf_cons (by rfl) (by go_simp; rfl) (by go_simp; rfl) (by go_simp; exact nat_beq _ _) ?_
  refine eqf_cons (by rfl) (by go_simp) (by go_simp) (eqS d w n.s m.s) ?_
  refine eqf_cons (by rfl) (by go_simp; rfl) (by go_simp; rfl) (by go_simp) ?_
  refine eqf_cons (by rfl) (by go_simp; rfl) (by go_simp; rfl) (by go_simp) ?_
  refine eqf_cons (by rfl) (by go_simp; rfl) (by go_simp; rfl) (by go_simp) ?_
  exact eqf_last (by rfl) (by go_simp; rfl) (by go_simp; rfl) (by go_simp)
theorem bop_eqA (T : TypeId) (xs ys : Array Value) (r : Bool) (w : World) (h : (Op.equal T (.agg xs) (.agg ys)).run Tryd.prog w = .ok r w) : (binOp .eql T (.agg xs) (.agg ys)).run Tryd.prog w = .ok (.bool r) w := by
  simp [binOp, h]
theorem bop_neqA (T : TypeId) (xs ys : Array Value) (r : Bool) (w : World) (h : (Op.equal T (.agg xs) (.agg ys)).run Tryd.prog w = .ok r w) : (binOp .neq T (.agg xs) (.agg ys)).run Tryd.prog w = .ok (.bool (!r)) w := by
  simp [binOp, h]
theorem eq_nd (n m : Nd) (w : World) : (binOp .eql 27 (.agg #[.int .u8 n.k, .int .u64 n.s.a, .int .u64 n.s.b, .int .u64 n.s.c, .int .u64 n.s.d, .int .i64 n.a, .int .i64 n.b, .int .i64 n.mn, .int .i64 n.mx]) (.agg #[.int .u8 m.k, .int .u64 m.s.a, .int .u64 m.s.b, .int .u64 m.s.c, .int .u64 m.s.d, .int .i64 m.a, .int .i64 m.b, .int .i64 m.mn, .int .i64 m.mx])).run Tryd.prog w = .ok (.bool (decide (n = m))) w := bop_eqA _ _ _ _ _ (eqN 9997 w n m)
theorem neq_nd (n m : Nd) (w : World) : (binOp .neq 27 (.agg #[.int .u8 n.k, .int .u64 n.s.a, .int .u64 n.s.b, .int .u64 n.s.c, .int .u64 n.s.d, .int .i64 n.a, .int .i64 n.b, .int .i64 n.mn, .int .i64 n.mx]) (.agg #[.int .u8 m.k, .int .u64 m.s.a, .int .u64 m.s.b, .int .u64 m.s.c, .int .u64 m.s.d, .int .i64 m.a, .int .i64 m.b, .int .i64 m.mn, .int .i64 m.mx])).run Tryd.prog w = .ok (.bool (!decide (n = m))) w := bop_neqA _ _ _ _ _ (eqN 9997 w n m)
theorem eq_set (s t : W4) (w : World) : (binOp .eql 24 (.agg #[.int .u64 s.a, .int .u64 s.b, .int .u64 s.c, .int .u64 s.d]) (.agg #[.int .u64 t.a, .int .u64 t.b, .int .u64 t.c, .int .u64 t.d])).run Tryd.prog w = .ok (.bool (decide (s = t))) w := bop_eqA _ _ _ _ _ (eqS 9998 w s t)
theorem neq_set (s t : W4) (w : World) : (binOp .neq 24 (.agg #[.int .u64 s.a, .int .u64 s.b, .int .u64 s.c, .int .u64 s.d]) (.agg #[.int .u64 t.a, .int .u64 t.b, .int .u64 t.c, .int .u64 t.d])).run Tryd.prog w = .ok (.bool (!decide (s = t))) w := bop_neqA _ _ _ _ _ (eqS 9998 w s t)
theorem eqg_nd (op : BinOp) (x y : Operand) (xs ys : Array Value) (w : World) : (eqGuard op 27 x y (.agg xs) (.agg ys)).run Tryd.prog w = .ok () w := run_eqGuard_agg w op 27 x y xs ys (by kernel_rfl)
theorem eqg_set (op : BinOp) (x y : Operand) (xs ys : Array Value) (w : World) : (eqGuard op 24 x y (.agg xs) (.agg ys)).run Tryd.prog w = .ok () w := run_eqGuard_agg w op 24 x y xs ys (by kernel_rfl)
end Go.Proofs.YtebkaajnnjfhjaaDoor
