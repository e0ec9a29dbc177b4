/-
  What is told, held against another: '==' and '!=' of two Parsed.
-/
import Derived.Test.YtpccfagbmbbpkaaRefP
import Derived.Test.YtpccfagbmbbpkaaWEqStruct
namespace Go.Proofs.Ytpccfagbmbbpkaa
open Go.RowKit Go.Proofs.YtpccfagbmbbpkaaW.PrintWords

theorem eqP (d : Nat) (w : World) (x0 y0 : Bool) (x1 y1 x2 y2 : ByteArray) :
    (Op.equalIn (d + 2) 24 (.agg #[.bool x0, .string x1, .string x2]) (.agg #[.bool y0, .string y1, .string y2])).run Try.prog w = .ok (x0 == y0 && (x1.toList == y1.toList && x2.toList == y2.toList)) w := by
  refine eqA_of Try.underlying24 (by kernel_rfl) ?_
  refine eqf_cons (by rfl) (by go_simp; rfl) (by go_simp; rfl) (by go_simp) ?_
  refine eqf_cons (by rfl) (by go_simp; rfl) (by go_simp; rfl) (by go_simp) ?_
  exact eqf_last (by rfl) (by go_simp; rfl) (by go_simp; rfl) (by go_simp)
theorem eq_deep (x y : Value) : Op.equal 24 x y = Op.equalIn (9998 + 2) 24 x y := rfl
theorem eq3 (b1 b2 : Bool) (h1 h2 p1 p2 : Pc.B) (w : World) : (Op.equal 24 (.agg #[.bool b1, .string ⟨h1.toArray⟩, .string ⟨p1.toArray⟩]) (.agg #[.bool b2, .string ⟨h2.toArray⟩, .string ⟨p2.toArray⟩])).run Try.prog w = .ok (b1 == b2 && (h1 == h2 && p1 == p2)) w := by
  have := eqP 9998 w b1 b2 ⟨h1.toArray⟩ ⟨h2.toArray⟩ ⟨p1.toArray⟩ ⟨p2.toArray⟩
  rw [eq_deep]
  simpa only [ByteArray.toList_mk] using this
theorem bop_eq (xs ys : Array Value) (r : Bool) (w : World) (h : (Op.equal 24 (.agg xs) (.agg ys)).run Try.prog w = .ok r w) : (binOp .eql 24 (.agg xs) (.agg ys)).run Try.prog w = .ok (.bool r) w := by
  simp [binOp, h]
theorem bop_neq (xs ys : Array Value) (r : Bool) (w : World) (h : (Op.equal 24 (.agg xs) (.agg ys)).run Try.prog w = .ok r w) : (binOp .neq 24 (.agg xs) (.agg ys)).run Try.prog w = .ok (.bool (!r)) w := by
  simp [binOp, h]
theorem eq_res (a b : Option (Pc.B × Pc.B)) (w : World) : (binOp .eql 24 (res a) (res b)).run Try.prog w = .ok (.bool (decide (a = b))) w := by
  rcases a with _ | ⟨h1, p1⟩ <;> rcases b with _ | ⟨h2, p2⟩ <;> refine bop_eq _ _ _ _ ?_
  · exact (eq3 false false [] [] [] [] w).trans (by simp)
  · exact (eq3 false true [] h2 [] p2 w).trans (by simp)
  · exact (eq3 true false h1 [] p1 [] w).trans (by simp)
  · refine (eq3 true true h1 h2 p1 p2 w).trans ?_
    congr 1
    rw [Bool.eq_iff_iff]; simp
theorem neq_res (a b : Option (Pc.B × Pc.B)) (w : World) : (binOp .neq 24 (res a) (res b)).run Try.prog w = .ok (.bool (!decide (a = b))) w := by
  rcases a with _ | ⟨h1, p1⟩ <;> rcases b with _ | ⟨h2, p2⟩ <;> refine bop_neq _ _ _ _ ?_
  · exact (eq3 false false [] [] [] [] w).trans (by simp)
  · exact (eq3 false true [] h2 [] p2 w).trans (by simp)
  · exact (eq3 true false h1 [] p1 [] w).trans (by simp)
  · refine (eq3 true true h1 h2 p1 p2 w).trans ?_
    congr 1
    rw [Bool.eq_iff_iff]; simp

theorem eqgT : Try.prog.eqGuardType Try.prog.depth 24 = false := by kernel_rfl
theorem eqg_agg (op : BinOp) (x y : Operand) (xs ys : Array Value) (w : World) : (eqGuard op 24 x y (.agg xs) (.agg ys)).run Try.prog w = .ok () w := by
  exact run_eqGuard_agg w op 24 x y xs ys eqgT
theorem eqg_res (op : BinOp) (x y : Operand) (a b : Option (Pc.B × Pc.B)) (w : World) : (eqGuard op 24 x y (res a) (res b)).run Try.prog w = .ok () w := by
  rcases a with _ | ⟨h1, p1⟩ <;> rcases b with _ | ⟨h2, p2⟩ <;> exact eqg_agg _ _ _ _ _ _

/-! ### field and the statements' own wake -/
theorem field_any (l h p : Pc.B) (hl : l.length ≤ 1000000) (w : World) : Calls Try.prog 11 #[.string ⟨l.toArray⟩, .string ⟨h.toArray⟩, .string ⟨p.toArray⟩] w fun e w' => e = .returned (.bool (decide (Gu.parse l = some (h, p)))) ∧ Below w.heap.size w w' := by
  have HE := fun w => eq_res (Gu.parse l) (some (h, p)) w
  have HG := fun op x y w => eqg_res op x y (Gu.parse l) (some (h, p)) w
  have HP := Lib.hid (fun w => parse_any l hl w)
  have hr : res (some (h, p)) = .agg #[.bool true, .string ⟨h.toArray⟩, .string ⟨p.toArray⟩] := rfl
  rw [hr] at HE HG
  clear hr
  generalize Gu.parse l = o at HP HE HG ⊢
  generalize res o = v at HP HE HG
  generalize decide (o = some (h, p)) = d at HE ⊢
  go_enter Try.func11, Try.ntmps11
  go_wp2_with fail
  refine (HP.out _).mono ?_
  rintro e w1 ⟨rfl, B1⟩
  go_wp2_with fail
  go_ret
  exact ⟨rfl, B1⟩
theorem field_k (l h p : Pc.B) (hl : l.length ≤ 1000000) (hk : Gu.parse l = some (h, p)) (w : World) : Calls Try.prog 11 #[.string ⟨l.toArray⟩, .string ⟨h.toArray⟩, .string ⟨p.toArray⟩] w fun e w' => e = .returned (.bool true) ∧ Below w.heap.size w w' := by
  have := field_any l h p hl w
  rw [decide_eq_true hk] at this
  exact this
theorem parse_k (l : Pc.B) (hl : l.length ≤ 1000000) (o : Option (Pc.B × Pc.B)) (hk : Gu.parse l = o) (w : World) : Calls Try.prog 9 #[.string ⟨l.toArray⟩] w fun e w' => e = .returned (res o) ∧ Below w.heap.size w w' := by
  rw [← hk]; exact parse_any l hl w
theorem k_1 : Gu.parse [104, 116, 116, 112, 58, 47, 47, 117, 64, 120, 58, 56, 48, 47, 97, 63, 98, 35, 99] = some ([120], [47, 97]) := by decide +kernel
theorem k_2 : Gu.parse [97, 37, 122, 122] = none := by decide +kernel
theorem gawake_any (w : World) : Calls Try.prog 8 #[] w fun e w' => e = .returned (.bool true) ∧ Below w.heap.size w w' := by
  have HE : ∀ w, (binOp .eql 24 (.agg #[.bool false, .string ⟨#[]⟩, .string ⟨#[]⟩]) (.agg #[.bool false, .string ⟨#[]⟩, .string ⟨#[]⟩])).run Try.prog w = .ok (.bool true) w := fun w => eq_res none none w
  have HG := fun op x y w => eqg_agg op x y #[.bool false, .string ⟨#[]⟩, .string ⟨#[]⟩] #[.bool false, .string ⟨#[]⟩, .string ⟨#[]⟩] w
  go_enter Try.func8, Try.ntmps8
  go_wp2_with fail
  refine (field_k _ _ _ (by decide) k_1 _).mono ?_
  rintro e w1 ⟨rfl, B1⟩
  go_wp2_with fail
  refine (parse_k _ (by decide) none k_2 _).mono ?_
  rintro e w2 ⟨rfl, B2⟩
  have HB := bthen B1 B2
  clear B1 B2
  unfold res
  go_wp2_with fail
  go_ret
  exact ⟨rfl, HB⟩
end Go.Proofs.Ytpccfagbmbbpkaa
