/-
  A purse's Run: overspent it does nothing; around a function that comes back; that panics by this purse; that panics by another one.
-/
import Derived.Test.YtjcjalobbgkcpaaRun
namespace Go.Proofs.Ytjcjalobbgkcpaa
open Go.RowKit Go.Proofs.YtjcjalobbgkcpaaW.PrintWords

/-- The world in which Run calls what it is given. -/
abbrev RW (w : World) (g : Nat) : World := (w.alloc (.cells #[.pointer (some ⟨g, 0, none⟩)] 22)).alloc (.cells #[.bool false] 4)
theorem rw_size (w : World) (g : Nat) : (RW w g).heap.size = w.heap.size + 2 := by simp
theorem rw_only (S : Nat → Prop) (w : World) (g n : Nat) : Only S w ((RW w g).drewN n) := (((Only.refl S w).alloc _).alloc _).trans ⟨rfl, rfl, rfl, Nat.le_refl _, fun _ _ _ => rfl⟩
/-- Run's own two blocks, behind what it called. -/
theorem rw_blk {S : Nat → Prop} {w w2 : World} {g n : Nat} (h : Only S ((RW w g).drewN n) w2) (hS : ∀ k, S k → k < w.heap.size) : w2.heap[w.heap.size]? = some (.cells #[.pointer (some ⟨g, 0, none⟩)] 22 (0, 0)) ∧ w2.heap[w.heap.size + 1]? = some (.cells #[.bool false] 4 (0, 0)) := by
  have h1 : ((RW w g).drewN n).heap[w.heap.size]? = some (.cells #[.pointer (some ⟨g, 0, none⟩)] 22 (0, 0)) := blk_alloc (blk_new w _) _
  have h2 : ((RW w g).drewN n).heap[w.heap.size + 1]? = some (.cells #[.bool false] 4 (0, 0)) := by
    have := blk_new (w.alloc (.cells #[.pointer (some ⟨g, 0, none⟩)] 22)) (.cells #[.bool false] 4)
    have e : (w.alloc (.cells #[.pointer (some ⟨g, 0, none⟩)] 22)).heap.size = w.heap.size + 1 := by simp
    rw [e] at this
    exact this
  exact ⟨h.blk h1 (fun hs => by have := hS _ hs; omega), h.blk h2 (fun hs => by have := hS _ hs; omega)⟩
theorem rw_end {S : Nat → Prop} {w w2 : World} {g n : Nat} (h : Only S ((RW w g).drewN n) w2) (v : Value) : Only S w (w2.setCell ⟨w.heap.size + 1, 0, none⟩ v) ∧ ∀ k, k < w.heap.size → (w2.setCell ⟨w.heap.size + 1, 0, none⟩ v).heap[k]? = w2.heap[k]? :=
  ⟨((rw_only S w g n).trans h).setCell (Or.inr (by show w.heap.size ≤ w.heap.size + 1; omega)) _, fun k hk => Below.heap_setCell _ _ _ _ (by show k ≠ w.heap.size + 1; omega)⟩

theorem run_over (g b s : Nat) (w : World) (K : PB w g b s) (hov : Fl.aff b < s) (fv : Value) : Calls Try.prog 12 #[.pointer (some ⟨g, 0, none⟩), fv] w fun e w' => e = .returned (.bool false) ∧ Only (fun _ => False) w w' := by
  have KK := Lib.hid (K)
  have HV := Lib.hid hov
  clear K hov
  go_enter_defers Try.func12, Try.ntmps12
  go_wp2_with fail
  refine (over_any g b s _ (blk_alloc (blk_alloc KK.out _) _)).mono ?_
  rw [decide_eq_true HV.out]
  rintro e w1 ⟨rfl, m, rfl⟩
  go_wp2_with fail
  refine ⟨.bool false, by simp [results, Try.results12, go_sem], rfl, ?_⟩
  exact (rw_end (Only.refl _ _) _).1

theorem run_ret (g b s : Nat) (w : World) (K : PB w g b s) (hno : ¬ Fl.aff b < s) (f : FuncId) (cap : Array Value) (hent : ∀ w, (callFunc f cap).run Try.prog w = .ok (.enter f cap) w) (S : Nat → Prop) (hS : ∀ k, S k → k < w.heap.size) (D : World → Prop)
    (hdo : ∀ n, Calls Try.prog f cap ((RW w g).drewN n) fun e w2 => e = .returned (.tuple #[]) ∧ Only S ((RW w g).drewN n) w2 ∧ D w2) :
    Calls Try.prog 12 #[.pointer (some ⟨g, 0, none⟩), .func (Fn.func f) #[] cap] w fun e w' => e = .returned (.bool true) ∧ Only S w w' ∧ ∃ w2, D w2 ∧ ∀ k, k < w.heap.size → w'.heap[k]? = w2.heap[k]? := by
  have hmf : ∀ (fn : Fn) (first cap : Array Value) (w : World), (Instr.makeFunc fn first cap).run Try.prog w = .ok (.func fn first cap) w := fun _ _ _ _ => rfl
  have KK := Lib.hid (K)
  have HV := Lib.hid hno
  clear K hno
  go_enter_defers Try.func12, Try.ntmps12
  go_wp2_with fail
  refine (over_any g b s _ (blk_alloc (blk_alloc KK.out _) _)).mono ?_
  rw [decide_eq_false HV.out]
  rintro e w1 ⟨rfl, m, rfl⟩
  go_wp2_with fail
  refine (hdo m).mono ?_
  rintro e w2 ⟨rfl, hO, hD⟩
  obtain ⟨k1, k2⟩ := rw_blk hO hS
  obtain ⟨hE, hF⟩ := rw_end hO (.bool true)
  have c0 := blk_cell k1 0
  have c1 := blk_cell k2 0
  have f1 := blk_frozen k2 0
  simp at c0 c1
  clear hdo k1 k2 hO hent
  have HD := Lib.hid hD
  clear hD
  go_wp2_with fail
  refine leaves_cons (f := 34) (args := #[.pointer (some ⟨w.heap.size, 0, none⟩), .pointer (some ⟨w.heap.size + 1, 0, none⟩)]) (by simp) (by simp [go_sem]) ?_
  refine (catch_idle _ _ _).mono ?_
  rintro e u' w'' ⟨rfl, rfl, rfl⟩
  exact ⟨.bool true, by simp [results, Try.results12, go_sem, c1], rfl, hE, w2, HD.out, hF⟩
theorem run_own (g b s : Nat) (w : World) (K : PB w g b s) (hno : ¬ Fl.aff b < s) (f : FuncId) (cap : Array Value) (hent : ∀ w, (callFunc f cap).run Try.prog w = .ok (.enter f cap) w) (S : Nat → Prop) (hS : ∀ k, S k → k < w.heap.size) (D : World → Prop) (older : List PanicEntry) (hol : older.dropWhile (!·.goexit) = [])
    (hdo : ∀ n, Calls Try.prog f cap ((RW w g).drewN n) fun e w2 => e = .panicked ({ v := pan g, recovered := false } :: older) ∧ Only S ((RW w g).drewN n) w2 ∧ D w2) :
    Calls Try.prog 12 #[.pointer (some ⟨g, 0, none⟩), .func (Fn.func f) #[] cap] w fun e w' => e = .returned (.bool false) ∧ Only S w w' ∧ ∃ w2, D w2 ∧ ∀ k, k < w.heap.size → w'.heap[k]? = w2.heap[k]? := by
  have hmf : ∀ (fn : Fn) (first cap : Array Value) (w : World), (Instr.makeFunc fn first cap).run Try.prog w = .ok (.func fn first cap) w := fun _ _ _ _ => rfl
  have KK := Lib.hid (K)
  have HV := Lib.hid hno
  clear K hno
  go_enter_defers Try.func12, Try.ntmps12
  go_wp2_with fail
  refine (over_any g b s _ (blk_alloc (blk_alloc KK.out _) _)).mono ?_
  rw [decide_eq_false HV.out]
  rintro e w1 ⟨rfl, m, rfl⟩
  go_wp2_with fail
  refine (hdo m).mono ?_
  rintro e w2 ⟨rfl, hO, hD⟩
  obtain ⟨k1, k2⟩ := rw_blk hO hS
  obtain ⟨hE, hF⟩ := rw_end hO (.bool false)
  have c0 := blk_cell k1 0
  have c1 := blk_cell k2 0
  have f1 := blk_frozen k2 0
  simp at c0 c1
  clear hdo k1 k2 hO hent
  have HD := Lib.hid hD
  clear hD
  go_wp2_with fail
  refine leaves_cons (f := 34) (args := #[.pointer (some ⟨w.heap.size, 0, none⟩), .pointer (some ⟨w.heap.size + 1, 0, none⟩)]) (by simp) (by simp [go_sem]) ?_
  refine (catch_own _ _ g _ older _ c0 c1 f1).mono ?_
  rintro e u' w'' ⟨rfl, rfl, rfl⟩
  have hset : settle (.panicking ({ v := pan g, recovered := true } :: older)) = .returning := by simp only [settle, hol]
  show Leaves _ _ _ _ [] (settle _) _
  rw [hset]
  exact ⟨.bool false, by simp [results, Try.results12, go_sem, c1], rfl, hE, w2, HD.out, hF⟩
theorem run_oth (g b s : Nat) (w : World) (K : PB w g b s) (hno : ¬ Fl.aff b < s) (f : FuncId) (cap : Array Value) (hent : ∀ w, (callFunc f cap).run Try.prog w = .ok (.enter f cap) w) (S : Nat → Prop) (hS : ∀ k, S k → k < w.heap.size) (D : World → Prop) (h : Nat) (hne : h ≠ g) (hD2 : ∀ w2, D w2 → (∃ b s, PB w2 g b s) ∧ ∃ b s, PB w2 h b s) (older : List PanicEntry)
    (hdo : ∀ n, Calls Try.prog f cap ((RW w g).drewN n) fun e w2 => e = .panicked ({ v := pan h, recovered := false } :: older) ∧ Only S ((RW w g).drewN n) w2 ∧ D w2) :
    Calls Try.prog 12 #[.pointer (some ⟨g, 0, none⟩), .func (Fn.func f) #[] cap] w fun e w' => e = .panicked ({ v := pan h, recovered := false } :: { v := pan h, recovered := true } :: older) ∧ Only S w w' ∧ ∃ w2, D w2 ∧ ∀ k, k < w.heap.size → w'.heap[k]? = w2.heap[k]? := by
  have hmf : ∀ (fn : Fn) (first cap : Array Value) (w : World), (Instr.makeFunc fn first cap).run Try.prog w = .ok (.func fn first cap) w := fun _ _ _ _ => rfl
  have KK := Lib.hid (K)
  have HV := Lib.hid hno
  clear K hno
  go_enter_defers Try.func12, Try.ntmps12
  go_wp2_with fail
  refine (over_any g b s _ (blk_alloc (blk_alloc KK.out _) _)).mono ?_
  rw [decide_eq_false HV.out]
  rintro e w1 ⟨rfl, m, rfl⟩
  go_wp2_with fail
  refine (hdo m).mono ?_
  rintro e w2 ⟨rfl, hO, hD⟩
  obtain ⟨k1, k2⟩ := rw_blk hO hS
  obtain ⟨⟨b1, s1, p1⟩, b2, s2, p2⟩ := hD2 _ hD
  have P1 := Lib.hid (show PB w2 g b1 s1 from p1)
  have P2 := Lib.hid (show PB w2 h b2 s2 from p2)
  clear p1 p2
  have hE : Only S w w2 := (rw_only S w g m).trans hO
  have c0 := blk_cell k1 0
  have c1 := blk_cell k2 0
  have f1 := blk_frozen k2 0
  simp at c0 c1
  clear hdo k1 k2 hO hent
  have HD := Lib.hid hD
  clear hD
  go_wp2_with fail
  refine leaves_cons (f := 34) (args := #[.pointer (some ⟨w.heap.size, 0, none⟩), .pointer (some ⟨w.heap.size + 1, 0, none⟩)]) (by simp) (by simp [go_sem]) ?_
  refine (catch_other hne _ _ older _ P1.out P2.out c0).mono ?_
  rintro e u' w'' ⟨rfl, rfl, rfl⟩
  exact ⟨rfl, hE, _, HD.out, fun _ _ => rfl⟩
end Go.Proofs.Ytjcjalobbgkcpaa
