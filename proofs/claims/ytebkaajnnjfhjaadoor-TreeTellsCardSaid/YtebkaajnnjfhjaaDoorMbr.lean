/-
  The document's own 256 answers of a set: what Members answers.
-/
import Derived.Test.YtebkaajnnjfhjaaDoorRright
import Derived.Test.YtebkaajnnjfhjaaDoorSetw
import Derived.Laws.Rows
import Derived.Laws.Tables
namespace Go.Proofs.YtebkaajnnjfhjaaDoor
open Go.RowKit Go.Proofs.YtebkaajnnjfhjaaDoorW.PrintWords

section
variable {P : Program}
theorem run_storeVar_row (w : World) (g : Nat) (t ty : TypeId) (cur cs : Array Value) (hg : w.heap[g]? = some (.cells cur t (0, 0))) (hs : cs.size = cur.size) (h1 : ∀ v ∈ cs.toList, v.oneCell' = true)
    (hi : (P.info? ty).map (·.size) = some cs.size) : (storeVar ty ⟨g, 0, none⟩ (.agg cs)).run P w = .ok () (w.setRow g cs) := by
  obtain ⟨i, hi1, hi2⟩ := Option.map_eq_some_iff.1 hi
  have hst := run_storeCells_from (P := P) g t cs.toList 0 cur w hg (by simp [hs]) h1
  simp [storeVar, sizeOf, typeInfo, hi1, hi2, Value.cells, hst]
theorem wpList_store_row {ops : Array Oper} {rest : List Oper} {o : Oper} {a : Act} {w : World} {Q : Exit → Act → World → Prop} (hgd : o.guard = none) (ty : TypeId) (x y : Operand) (ho : o.op = .store ty x y)
    (g : Nat) (hx : a.eval x = .pointer (some ⟨g, 0, none⟩)) (t : TypeId) (cur cs : Array Value) (hy : a.eval y = .agg cs) (hg : w.heap[g]? = some (.cells cur t (0, 0))) (hs : cs.size = cur.size) (h1 : ∀ v ∈ cs.toList, v.oneCell' = true)
    (hi : (P.info? ty).map (·.size) = some cs.size)
    (h : wpList P ops Q rest (a.put o.dst undef) (w.setRow g cs)) : wpList P ops Q (o :: rest) a w := by
  refine wpList_plain hgd fun K hK => ?_
  unfold Oper.wp execOp
  simp only [ho, hx, hy, Instr.storeAt, Instr.sureAddr, Sem.run_bind, Sem.run_pure, Result.andThen_ok, run_storeVar_row w g t ty cur cs hg hs h1 hi]
  exact hK _ _ h
end

theorem below_setRow {B : Nat} {a w : World} (h : Below B a w) {g : Nat} (hg : B ≤ g) (cs : Array Value) : Below B a (w.setRow g cs) :=
  ⟨h.os, h.tape, h.output, by rw [size_setRow]; exact h.size, fun k hk => (setRow_other w g k cs (by omega)).trans (h.block k hk)⟩

def memL (s : W4) (k : Nat) : List Value := (List.range 256).map fun c => Value.bool (decide (c < k) && s.has c)
def memA (s : W4) (k : Nat) : Array Value := (memL s k).toArray
theorem memA_size (s : W4) (k : Nat) : (memA s k).size = 256 := by simp [memA, memL]
theorem memA_get (s : W4) (k c : Nat) (h : c < 256) : (memA s k)[c]? = some (.bool (decide (c < k) && s.has c)) := by
  simp [memA, memL, h]
theorem memA_one (s : W4) (k : Nat) : ∀ v ∈ (memA s k).toList, v.oneCell' = true := by
  intro v hv
  simp only [memA, memL, List.mem_map] at hv
  obtain ⟨_, _, rfl⟩ := hv
  rfl
theorem memA_set (s : W4) (k : Nat) (h : k < 256) : (memA s k).setIfInBounds k (.bool (s.has k)) = memA s (k + 1) := by
  apply Array.ext_getElem?
  intro c
  rw [Array.getElem?_setIfInBounds]
  by_cases hc : c < 256
  · rw [memA_size, memA_get _ _ _ hc, memA_get _ _ _ hc]
    by_cases e : k = c
    · subst e
      simp [h]
    · rw [if_neg e]
      congr 3
      simp only [decide_eq_decide]
      omega
  · rw [if_neg (by omega), Array.getElem?_eq_none (by rw [memA_size]; omega), Array.getElem?_eq_none (by rw [memA_size]; omega)]
theorem div_step (x j : Nat) : x / 2 ^ j / 2 = x / 2 ^ (j + 1) := by rw [Nat.div_div_eq_div_mul, Nat.pow_succ]
theorem zero_mem (w : World) : (zeroValue 93).run Tryd.prog w = .ok (.agg (memA W4.zero 0)) w := by kernel_rfl
theorem memA_zero (s : W4) : memA s 0 = memA W4.zero 0 := by simp [memA, memL]
def sh (x n : Nat) : Nat := x / 2 ^ n
theorem sh_zero (x : Nat) : sh x 0 = x := by simp [sh]
theorem sh_succ (x n : Nat) : sh x n / 2 = sh x (n + 1) := div_step x n
theorem sh_le (x n : Nat) : sh x n ≤ x := Nat.div_le_self _ _
theorem sh_bit (x n : Nat) : decide (sh x n % 2 = 1) = x.testBit n := by rw [Nat.testBit_eq_decide_div_mod_eq]; rfl
theorem sh_int (x n : Nat) : ((sh x n : Int) % 2 == 1) = x.testBit n := by
  rw [← sh_bit, Bool.eq_iff_iff]
  simp only [beq_iff_eq, decide_eq_true_eq]
  omega

set_option maxRecDepth 100000 in
set_option maxHeartbeats 1600000 in
theorem members_any (s : W4) (hs : s.Ok) (w : World) : Calls Tryd.prog 65 #[.agg #[.int .u64 s.a, .int .u64 s.b, .int .u64 s.c, .int .u64 s.d]] w fun e w' => e = .returned (.agg (memA s 256)) ∧ Below w.heap.size w w' := by
  have hz := zero_mem
  go_enter Tryd.func65, Tryd.ntmps65
  go_wp2
  clear hz
  obtain ⟨h1, h2, h3, h4⟩ := hs
  go_loopw [4] (fun i wr => ∃ k : Nat, k ≤ 256 ∧ i = .int .i64 k ∧ wr = (((w.alloc (.cells #[.int .u64 s.a, .int .u64 s.b, .int .u64 s.c, .int .u64 s.d] 23)).alloc (.cells (memA W4.zero 0) 93)).alloc (.cells (memA s k) 93))) (fun i _ => 256 - (intOf i).toNat)
  case atStart => exact ⟨0, by omega, rfl, by rw [memA_zero s]⟩
  case round =>
    obtain ⟨k, hk, rfl, rfl⟩ := hrel
    by_cases hlt : k < 256
    · have hc : k / 64 = 0 ∨ k / 64 = 1 ∨ k / 64 = 2 ∨ k / 64 = 3 := by omega
      have hm := Lib.hid (memA_set s k hlt)
      have hg := Lib.hid (memA_get s k k hlt)
      rcases hc with hc | hc | hc | hc
      · have hq : (k : Int) / 64 = 0 := by omega
        have HQ := Lib.hid hc
        clear hc
        go_wp2
        go_loop [5, 6] (fun x j => ∃ n : Nat, n ≤ k % 64 ∧ x = .int .u64 (sh s.a n : Int) ∧ j = .int .i64 n) (fun _ j => 64 - (intOf j).toNat)
        case atStart => exact ⟨0, by omega, by rw [sh_zero], rfl⟩
        case round =>
          obtain ⟨n, hn, rfl, rfl⟩ := hrel
          have hb := sh_le s.a n
          by_cases hnl : n < k % 64
          · go_wp2
            go_round
            case rel => exact ⟨n + 1, by omega, by rw [← sh_succ]; rfl, by go_num⟩
            case measure => simp [intOf]; omega
          · have e : n = k % 64 := by omega
            have HE := Lib.hid e
            clear e
            have hge := hg.out
            go_wp2
            go_roundw
            case rel =>
              refine ⟨k + 1, by omega, by go_num, ?_⟩
              rw [← hm.out, sh_int, HE.out]
              simp [W4.has, W4.word, HQ.out]
            case measure => simp [intOf]; omega
      · have hq : (k : Int) / 64 = 1 := by omega
        have HQ := Lib.hid hc
        clear hc
        go_wp2
        go_loop [5, 6] (fun x j => ∃ n : Nat, n ≤ k % 64 ∧ x = .int .u64 (sh s.b n : Int) ∧ j = .int .i64 n) (fun _ j => 64 - (intOf j).toNat)
        case atStart => exact ⟨0, by omega, by rw [sh_zero], rfl⟩
        case round =>
          obtain ⟨n, hn, rfl, rfl⟩ := hrel
          have hb := sh_le s.b n
          by_cases hnl : n < k % 64
          · go_wp2
            go_round
            case rel => exact ⟨n + 1, by omega, by rw [← sh_succ]; rfl, by go_num⟩
            case measure => simp [intOf]; omega
          · have e : n = k % 64 := by omega
            have HE := Lib.hid e
            clear e
            have hge := hg.out
            go_wp2
            go_roundw
            case rel =>
              refine ⟨k + 1, by omega, by go_num, ?_⟩
              rw [← hm.out, sh_int, HE.out]
              simp [W4.has, W4.word, HQ.out]
            case measure => simp [intOf]; omega
      · have hq : (k : Int) / 64 = 2 := by omega
        have HQ := Lib.hid hc
        clear hc
        go_wp2
        go_loop [5, 6] (fun x j => ∃ n : Nat, n ≤ k % 64 ∧ x = .int .u64 (sh s.c n : Int) ∧ j = .int .i64 n) (fun _ j => 64 - (intOf j).toNat)
        case atStart => exact ⟨0, by omega, by rw [sh_zero], rfl⟩
        case round =>
          obtain ⟨n, hn, rfl, rfl⟩ := hrel
          have hb := sh_le s.c n
          by_cases hnl : n < k % 64
          · go_wp2
            go_round
            case rel => exact ⟨n + 1, by omega, by rw [← sh_succ]; rfl, by go_num⟩
            case measure => simp [intOf]; omega
          · have e : n = k % 64 := by omega
            have HE := Lib.hid e
            clear e
            have hge := hg.out
            go_wp2
            go_roundw
            case rel =>
              refine ⟨k + 1, by omega, by go_num, ?_⟩
              rw [← hm.out, sh_int, HE.out]
              simp [W4.has, W4.word, HQ.out]
            case measure => simp [intOf]; omega
      · have hq : (k : Int) / 64 = 3 := by omega
        have HQ := Lib.hid hc
        clear hc
        go_wp2
        go_loop [5, 6] (fun x j => ∃ n : Nat, n ≤ k % 64 ∧ x = .int .u64 (sh s.d n : Int) ∧ j = .int .i64 n) (fun _ j => 64 - (intOf j).toNat)
        case atStart => exact ⟨0, by omega, by rw [sh_zero], rfl⟩
        case round =>
          obtain ⟨n, hn, rfl, rfl⟩ := hrel
          have hb := sh_le s.d n
          by_cases hnl : n < k % 64
          · go_wp2
            go_round
            case rel => exact ⟨n + 1, by omega, by rw [← sh_succ]; rfl, by go_num⟩
            case measure => simp [intOf]; omega
          · have e : n = k % 64 := by omega
            have HE := Lib.hid e
            clear e
            have hge := hg.out
            go_wp2
            go_roundw
            case rel =>
              refine ⟨k + 1, by omega, by go_num, ?_⟩
              rw [← hm.out, sh_int, HE.out]
              simp [W4.has, W4.word, HQ.out]
            case measure => simp [intOf]; omega
    · obtain rfl : k = 256 := by omega
      clear hk hlt h1 h2 h3 h4
      generalize hW : w.alloc (.cells #[.int .u64 s.a, .int .u64 s.b, .int .u64 s.c, .int .u64 s.d] 23) = W
      have hWs : W.heap.size = w.heap.size + 1 := by rw [← hW]; simp
      have hWB : Below w.heap.size w W := by rw [← hW]; exact (Below.refl _ _).alloc (Nat.le_refl _) _
      clear hW
      have g3 : ((W.alloc (.cells (memA W4.zero 0) 93)).alloc (.cells (memA s 256) 93)).heap[w.heap.size + 1 + 1]? = some (.cells (memA s 256) 93 (0, 0)) := by
        rw [← hWs]; exact heap_alloc2_new W _ _
      have g2 : ((W.alloc (.cells (memA W4.zero 0) 93)).alloc (.cells (memA s 256) 93)).heap[w.heap.size + 1]? = some (.cells (memA W4.zero 0) 93 (0, 0)) := by
        rw [← hWs]; exact heap_alloc2_old W _ _
      have hB2 : Below w.heap.size w ((W.alloc (.cells (memA W4.zero 0) 93)).alloc (.cells (memA s 256) 93)) := (hWB.alloc (by omega) _).alloc (by simp; omega) _
      generalize ((W.alloc (.cells (memA W4.zero 0) 93)).alloc (.cells (memA s 256) 93)) = V at g2 g3 hB2 ⊢
      clear hWs hWB
      go_wp2_with (first
        | (refine wpList_load_row rfl 93 _ rfl (w.heap.size + 1 + 1) rfl 93 (memA s 256) (0, 0) _ g3 Tryd.underlying93 rfl (by rw [memA_size]; kernel_rfl) ?_)
        | (refine wpList_store_row rfl 93 _ _ rfl (w.heap.size + 1) rfl 93 (memA W4.zero 0) (memA s 256) rfl g2 (by rw [memA_size, memA_size]) (memA_one _ _) (by rw [memA_size]; kernel_rfl) ?_))
      have g4 : (V.setRow (w.heap.size + 1) (memA s 256)).heap[w.heap.size + 1]? = some (.cells (memA s 256) 93 (0, 0)) := setRow_heap _ _ _ _ _ _ g2
      refine bodyPost_ret (results_cell_row rfl _ _ (w.heap.size + 1) 93 (memA s 256) (0, 0) _ rfl g4 Tryd.underlying93 rfl (by rw [memA_size]; kernel_rfl)) rfl ⟨rfl, ?_⟩
      exact below_setRow hB2 (by omega) _
end Go.Proofs.YtebkaajnnjfhjaaDoor
