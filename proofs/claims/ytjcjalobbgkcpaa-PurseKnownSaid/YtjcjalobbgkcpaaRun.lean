/-
  What a purse's Run does: its deferred closure, and Run around a function that comes back, that panics by this purse, or by another one.
-/
import Derived.Test.YtjcjalobbgkcpaaPur
import Derived.LaidEql
namespace Go.Proofs.Ytjcjalobbgkcpaa
open Go.RowKit Go.Proofs.YtjcjalobbgkcpaaW.PrintWords

/-- A purse's pointer, as a value that is panicked with. -/
abbrev pan (g : Nat) : Value := .iface 22 (.pointer (some ⟨g, 0, none⟩))
theorem eq_nil' (w : World) : (binOp BinOp.eql 20 Value.nilIface Value.nilIface).run Try.prog w = .ok (.bool true) w := by kernel_rfl
theorem eq_same (g : Nat) (w : World) : (binOp BinOp.eql 20 (pan g) (pan g)).run Try.prog w = .ok (.bool true) w :=
  run_eql_iface_ptr_same (te := 49) w _ Try.underlying20 Try.underlying22 rfl (by kernel_rfl) rfl
theorem eq_other {g h b s b' s' : Nat} (hne : h ≠ g) (w : World) (K : PB w g b s) (K' : PB w h b' s') : (binOp BinOp.eql 20 (pan h) (pan g)).run Try.prog w = .ok (.bool false) w :=
  run_eql_iface_ptr_other (te := 49) w Try.underlying20 Try.underlying22 rfl (by kernel_rfl) rfl (by decide) (by intro e; injection e; exact hne (by assumption)) K' K

theorem catch_idle (p k : Addr) (w : World) : CallsD Try.prog 34 #[.pointer (some p), .pointer (some k)] .returning w fun e u' w' => e = .returned (.tuple #[]) ∧ u' = .returning ∧ w' = w := by
  have hn := eq_nil'
  refine callsD_of_wpS Try.func34 rfl fun c₀ cs hu => ?_
  apply wpS_seq
  apply wpS_region
  simp [wpOpsS, go_sem, recoverD, hu, Try.ntmps34, Exit.thenS]
  refine wpS_of_wp ?_
  go_wp2
  cases c₀
  simp_all [bodyPostS, results, Try.results34]

theorem catch_own (p k : Addr) (g : Nat) (x : Value) (older : List PanicEntry) (w : World) (hp : w.cell? p = some (.pointer (some ⟨g, 0, none⟩))) (hk : w.cell? k = some x) (hz : w.frozen? k = false) :
    CallsD Try.prog 34 #[.pointer (some p), .pointer (some k)] (.panicking ({ v := pan g, recovered := false } :: older)) w fun e u' w' => e = .returned (.tuple #[]) ∧ u' = .panicking ({ v := pan g, recovered := true } :: older) ∧ w' = w.setCell k (.bool false) := by
  have hn := eq_same g
  refine callsD_of_wpS Try.func34 rfl fun c₀ cs hu => ?_
  apply wpS_seq
  apply wpS_region
  simp [wpOpsS, go_sem, recoverD, hu, Try.ntmps34, Exit.thenS]
  refine wpS_of_wp ?_
  change Code.wp _ _ _ { tmps := #[.pointer (some p), .pointer (some k), pan g, pan g, undef, undef, undef, undef, undef, undef, undef, undef], defers := [] } w
  clear hu
  go_wp2
  refine ⟨rfl, _, rfl, .tuple #[], ?_, rfl, rfl, rfl⟩
  simp [results, Try.results34]

theorem catch_other {g h b s b' s' : Nat} (hne : h ≠ g) (p k : Addr) (older : List PanicEntry) (w : World) (K : PB w g b s) (K' : PB w h b' s') (hp : w.cell? p = some (.pointer (some ⟨g, 0, none⟩))) :
    CallsD Try.prog 34 #[.pointer (some p), .pointer (some k)] (.panicking ({ v := pan h, recovered := false } :: older)) w fun e u' w' => e = .panicked [{ v := pan h, recovered := false }] ∧ u' = .panicking ({ v := pan h, recovered := true } :: older) ∧ w' = w := by
  have hn := eq_other hne w K K'
  clear K K'
  refine callsD_of_wpS Try.func34 rfl fun c₀ cs hu => ?_
  apply wpS_seq
  apply wpS_region
  simp [wpOpsS, go_sem, recoverD, hu, Try.ntmps34, Exit.thenS]
  refine wpS_of_wp ?_
  change Code.wp _ _ _ { tmps := #[.pointer (some p), .pointer (some k), pan h, pan h, undef, undef, undef, undef, undef, undef, undef, undef], defers := [] } w
  clear hu
  go_wp2
  refine ⟨rfl, _, rfl, rfl, rfl, rfl⟩
end Go.Proofs.Ytjcjalobbgkcpaa
