/-
  PercentTells: whether a text is valid, what it says, its escapes and its one form are the document's: the call returns true.
-/
import Derived.Test.YtmgfhlkpmacehaaRefEnc
import Derived.Test.YtmgfhlkpmacehaaAwake
import Derived.Deep.RegionHeld3
namespace Go.Proofs.Ytmgfhlkpmacehaa
open Go.RowKit Go.Proofs.YtmgfhlkpmacehaaW.PrintWords

/-- The four cells of a set that a function keeps in its own block. -/
def FourIn (w : World) (s : W4) (x : World) : Prop := Below (w.heap.size + 1) (w.alloc ((.cells #[.int .u64 s.a, .int .u64 s.b, .int .u64 s.c, .int .u64 s.d] 24))) x
theorem four_cells {w : World} {s : W4} {x : World} (h : FourIn w s x) : x.cell? ⟨w.heap.size, 0, none⟩ = some (.int .u64 s.a) ∧ x.cell? ⟨w.heap.size, 1, none⟩ = some (.int .u64 s.b) ∧ x.cell? ⟨w.heap.size, 2, none⟩ = some (.int .u64 s.c) ∧ x.cell? ⟨w.heap.size, 3, none⟩ = some (.int .u64 s.d) := by
  have K : x.heap[w.heap.size]? = some ((.cells #[.int .u64 s.a, .int .u64 s.b, .int .u64 s.c, .int .u64 s.d] 24)) := (h.block _ (by omega)).trans (blk_new _ _)
  have c0 := blk_cell K 0
  have c1 := blk_cell K 1
  have c2 := blk_cell K 2
  have c3 := blk_cell K 3
  simp at c0 c1 c2 c3
  exact ⟨c0, c1, c2, c3⟩
theorem FourIn.drew {w : World} {s : W4} {x : World} (h : FourIn w s x) : FourIn w s x.drew := Below.drew h
theorem FourIn.size {w : World} {s : W4} {x : World} (h : FourIn w s x) : w.heap.size + 1 ≤ x.heap.size := by
  have := Below.size h
  simpa using this
theorem FourIn.call {w : World} {s : W4} {x y : World} (h : FourIn w s x) (b : Below x.heap.size x y) : FourIn w s y := Below.trans h (b.mono h.size)
theorem FourIn.start {w : World} {s : W4} {x : World} (b : Below (w.alloc ((.cells #[.int .u64 s.a, .int .u64 s.b, .int .u64 s.c, .int .u64 s.d] 24))).heap.size (w.alloc ((.cells #[.int .u64 s.a, .int .u64 s.b, .int .u64 s.c, .int .u64 s.d] 24))) x) : FourIn w s x := b.mono (by simp)
theorem FourIn.out {w : World} {s : W4} {x : World} (h : FourIn w s x) : Below w.heap.size w x := ((Below.refl _ _).alloc (Nat.le_refl _) _).trans (Below.mono h (by simp))

theorem four_call {w : World} {s : W4} {x y : World} {R : Prop} (h : FourIn w s x ∧ R) (b : Below x.heap.size x y) : FourIn w s y ∧ y.cell? ⟨w.heap.size, 0, none⟩ = some (.int .u64 s.a) ∧ y.cell? ⟨w.heap.size, 1, none⟩ = some (.int .u64 s.b) ∧ y.cell? ⟨w.heap.size, 2, none⟩ = some (.int .u64 s.c) ∧ y.cell? ⟨w.heap.size, 3, none⟩ = some (.int .u64 s.d) := ⟨h.1.call b, four_cells (h.1.call b)⟩

set_option maxRecDepth 100000 in
set_option maxHeartbeats 1600000 in
theorem tells_list (l : Pc.B) (hl0 : l.length ≤ 9223372036854775807) (s : W4) (hs : s.Ok) (w : World) : Calls Try.prog 3 #[.string ⟨l.toArray⟩, .agg #[.int .u64 s.a, .int .u64 s.b, .int .u64 s.c, .int .u64 s.d]] w fun e w' => e = .returned (.bool true) ∧ Below w.heap.size w w' := by
  have hm : ∃ m : Pc.B, m.length ≤ 5000 ∧ m = if 5000 < l.length then l.take 5000 else l := by
    refine ⟨_, ?_, rfl⟩
    split
    · simp; omega
    · omega
  obtain ⟨m, hm5, hme⟩ := hm
  by_cases h5 : 5000 < l.length
  all_goals
    first | rw [if_pos h5] at hme | rw [if_neg h5] at hme
    have HM := Lib.hid hme
    clear hme
    go_enter Try.func3, Try.ntmps3
    go_wp2_with fail
    rw [← HM.out]
    clear HM h5 hl0
    refine (decode_any m (by omega) _).mono ?_
    rintro e w1 ⟨rfl, B1⟩
    go_wp2_with fail
    refine (rdecode_any m (by omega) _).mono ?_
    rintro e w2 ⟨rfl, B2⟩
    have F2 : FourIn w s w2 := (FourIn.start B1).call B2
    clear B1 B2
    go_wp2_with fail
    go_region_held3 (fun x => FourIn w s x ∧ x.cell? ⟨w.heap.size, 0, none⟩ = some (.int .u64 s.a) ∧ x.cell? ⟨w.heap.size, 1, none⟩ = some (.int .u64 s.b) ∧ x.cell? ⟨w.heap.size, 2, none⟩ = some (.int .u64 s.c) ∧ x.cell? ⟨w.heap.size, 3, none⟩ = some (.int .u64 s.d)) ((first | exact ⟨F2.drew, four_cells F2.drew⟩ | assumption | exact four_call ‹FourIn w s _ ∧ _› ‹_›)) ((first
      | ((go_at_call 11; refine (valid_any m (by omega) _).mono ?_; rintro e w3 ⟨rfl, rfl⟩))
      | ((go_at_call 12; refine (rvalid_any m (by omega) _).mono ?_; rintro e w3 ⟨rfl, rfl⟩))
      | ((go_at_call 13; refine (encode_any m s hs (by omega) _).mono ?_; rintro e w3 ⟨rfl, B3⟩))
      | ((go_at_call 15; refine (members_any s hs _).mono ?_; rintro e w3 ⟨rfl, B3⟩))
      | ((go_at_call 14; refine (rencode_any m s (by omega) _).mono ?_; rintro e w3 ⟨rfl, B3⟩))
      | ((go_at_call 16; refine (upper_any m (by omega) _).mono ?_; rintro e w3 ⟨rfl, B3⟩))
      | ((go_at_call 17; refine (rupper_any m (by omega) _).mono ?_; rintro e w3 ⟨rfl, B3⟩))
      | ((go_at_call 18; refine (awake_any _).mono ?_; rintro e w3 ⟨rfl, B3⟩))))
    obtain ⟨hF, -, -, -, -⟩ := ‹FourIn w s _ ∧ _›
    go_wp2
    go_ret
    exact ⟨rfl, hF.out⟩

theorem tells_any (a : ByteArray) (ha : a.size ≤ maxLen) (s : W4) (hs : s.Ok) (w : World) : Calls Try.prog 3 #[.string a, .agg #[.int .u64 s.a, .int .u64 s.b, .int .u64 s.c, .int .u64 s.d]] w fun e w' => e = .returned (.bool true) ∧ Below w.heap.size w w' := by
  have h : a.data.toList.length ≤ 9223372036854775807 := by rw [data_length]; exact ha
  rw [str_eq a]
  exact tells_list _ h s hs w
end Go.Proofs.Ytmgfhlkpmacehaa
